/-
  The exact statement about WriteSector, walked. Conditions: the sectors and the writes read as lists.
-/
import Derived.Test.YtgabjepoooageaaMarkX
namespace Go.Proofs.Ytgabjepoooageaa
open Go.RowKit
set_option linter.unusedVariables false
set_option linter.unusedSimpArgs false

theorem rl_k2 {α : Type} {enc : α → List Value} {size g h : Nat} {w w' : World} {A : Option Addr} {xs : List α} (hr : Rl enc size w A xs) (k : Kept2 w w' g h) (hb : ∀ b, A.map (·.block) = some b → b ≠ g ∧ b ≠ h) : Rl enc size w' A xs :=
  hr.keep fun b o u hA hc => (World.cell?_of_block (a := ⟨b, o, none⟩) (k.block b (cell_lt hc) (hb b hA).1 (hb b hA).2)).trans hc
/-- A disk handed back and a word, and all that is known of its memory. -/
def WrO (ok : Bool) (E : List Int) (F : List (Int × Int)) (w : World) (e : Ending) (w' : World) : Prop :=
  ∃ A c B d, e = .returned (.tuple #[.agg #[.slice A E.length c, .slice B F.length d], .bool ok]) ∧ Below w.heap.size w w' ∧ Rl encD 1 w' A E ∧ Rl encW 2 w' B F ∧ RowX 3 1 w' w.heap.size w'.heap.size A c E.length ∧ RowX 41 2 w' w.heap.size w'.heap.size B d F.length ∧
    (∀ z, A.map (·.block) = some z → w.heap.size ≤ z ∧ z < w'.heap.size) ∧ (∀ z, B.map (·.block) = some z → w.heap.size ≤ z ∧ z < w'.heap.size)
theorem rowx_of {α : Type} {T size B c : Nat} {w : World} {A : Option Addr} {xs : List α} {enc : α → List Value} (L : Lst enc size B w A c xs) (hb : xs = [] ∨ ∃ g arr, A = some ⟨g, 0, none⟩ ∧ B ≤ g ∧ Blk w g T arr ∧ arr.size = c * size) : RowX T size w B w.heap.size A c xs.length := by
  rcases hb with rfl | ⟨g, arr, a, b, d, e⟩
  · exact .inl rfl
  · exact .inr ⟨g, arr, a, b, d.lt, d, e, L.cap⟩
theorem wr_o {xs : List Int} {ws : List (Int × Int)} {x : Int × Int} {w w' : World} {e : Ending} (h : WrR xs ws x w e w') : WrO (wok xs ws x) (WX xs ws x) (WY xs ws x) w e w' := by
  obtain ⟨a, b, c, p, q, r, rfl, hb, h1, h2⟩ := h
  obtain ⟨A, c', e1, L1, X1⟩ := ow_open (by omega) encD_len h1
  obtain ⟨B, d', e2, L2, X2⟩ := ow_open (by omega) encW_len h2
  exact ⟨A, c', B, d', by rw [e1, e2], hb, L1.rl, L2.rl, rowx_of L1 X1, rowx_of L2 X2, L1.blk, L2.blk⟩
theorem RowX.toN {T size B N N' c n : Nat} {w : World} {A : Option Addr} (h : RowX T size w B N A c n) (hN : N ≤ N') : RowX T size w B N' A c n := by
  rcases h with h | ⟨g, arr, a, b, d, e⟩
  · exact .inl h
  · exact .inr ⟨g, arr, a, b, by omega, e⟩
theorem RowX.toB {T size B B' N c n : Nat} {w : World} {A : Option Addr} (h : RowX T size w B N A c n) (hB : B' ≤ B) : RowX T size w B' N A c n := by
  rcases h with h | ⟨g, arr, a, b, e⟩
  · exact .inl h
  · exact .inr ⟨g, arr, a, by omega, e⟩
/-- The blocks of other types are none of the two rows'. -/
theorem at_ne {T size g c n b t : Nat} {w : World} {A : Option Addr} {cs : Array Value} (h : AtX T size w g A c n) (hk : Blk w b t cs) (hT : t ≠ T) (hg : n = 0 → w.heap.size ≤ g) : b ≠ g := by
  rcases h with h | ⟨_, _, arr, k, _⟩
  · have := hg h; have := hk.lt; omega
  · exact Blk.ne hk k hT

/-- What is known of a row stays where another block is written that is no row's. -/
theorem rl_out {α : Type} {enc : α → List Value} {T size B N c K t : Nat} {w w' : World} {A : Option Addr} {xs : List α} {cs : Array Value} (hx : RowX T size w B N A c xs.length) (hr : Rl enc size w A xs) (hk : Blk w K t cs) (hg : w.grownBy w' (some K)) (hT : t ≠ T := by decide) : Rl enc size w' A xs := by
  rcases hx with hx | ⟨g, arr, rfl, b, d, e, f⟩
  · exact .inl (List.eq_nil_of_length_eq_zero hx)
  · exact hr.kept hg (fun k hk' => by
      cases hk'
      have := Blk.ne hk e hT
      simp
      omega)
theorem rowx_out {T size B N c n K t : Nat} {w w' : World} {A : Option Addr} {cs : Array Value} (hx : RowX T size w B N A c n) (hk : Blk w K t cs) (hg : w.grownBy w' (some K)) (hT : t ≠ T := by decide) (hN : N ≤ w'.heap.size := by first | (simp [World.setCell]; done) | (simp [World.setCell]; omega)) : RowX T size w' B w'.heap.size A c n := by
  rcases hx with hx | ⟨g, arr, a, b, d, e, f⟩
  · exact .inl hx
  · exact .inr ⟨g, arr, a, b, by omega, e.kept hg (by have := Blk.ne hk e hT; simp; omega), f⟩

set_option maxRecDepth 20000 in
set_option maxHeartbeats 8000000 in
theorem exactWs_walk (A : Option Addr) (c : Nat) (xs : List Int) (B : Option Addr) (d : Nat) (ws : List (Int × Int)) (a b : Int) (w : World) (hr : Rl encD 1 w A xs) (hq : Rl encW 2 w B ws) (hc : xs.length ≤ 9223372036854775807) (hd : ws.length ≤ 9223372036854775807) (hab : -9223372036854775808 ≤ a ∧ a ≤ 9223372036854775807) (hbb' : -9223372036854775808 ≤ b ∧ b ≤ 9223372036854775807) :
    Calls Try.prog 12 #[.agg #[.slice A xs.length c, .slice B ws.length d], .agg #[.int .i64 a, .int .i64 b]] w fun e w' => e = .returned (.bool true) ∧ Below w.heap.size w w' := by
  have hS : Hid (∀ A B c d W, Rl encD 1 W A xs → Rl encW 2 W B ws → xs.length ≤ 1048576 → ws.length ≤ 1048576 → Calls Try.prog 26 #[.agg #[.slice A xs.length c, .slice B ws.length d], .agg #[.int .i64 a, .int .i64 b]] W (WrO (wok xs ws (a, b)) (WX xs ws (a, b)) (WY xs ws (a, b)) W)) := fun A B c d W h1 h2 h3 h4 => (wsS A B c d xs ws (a, b) W h1 h2 h3 h4).mono fun _ _ h => wr_o h
  have hI : Hid (∀ A B c d W, Rl encD 1 W A xs → Rl encW 2 W B ws → xs.length ≤ 1048576 → ws.length ≤ 1048576 → Calls Try.prog 25 #[.agg #[.slice A xs.length c, .slice B ws.length d], .agg #[.int .i64 a, .int .i64 b]] W (WrO (wok xs ws (a, b)) (WX xs ws (a, b)) (WY xs ws (a, b)) W)) := fun A B c d W h1 h2 h3 h4 => (wsI A B c d xs ws (a, b) W h1 h2 h3 h4).mono fun _ _ h => wr_o h
  have hTW : Hid (∀ W, Calls Try.prog 35 #[.agg #[.int .i64 a, .int .i64 b]] W fun e w' => e = .returned (.agg #[.int .i64 a, .int .i64 b]) ∧ Below W.heap.size W w') := fun W => to1 (a, b) W
  have hl1 : (WX xs ws (a, b)).length ≤ 8 := by
    unfold WX
    split
    · rename_i hk
      exact (vd_parts (wok_parts hk).1).2.1
    · simp
  have hl2 : (WY xs ws (a, b)).length ≤ 8 := by
    unfold WY
    split
    · rename_i hk
      have := (wok_parts hk).2.2
      simp
      omega
    · simp
  generalize WX xs ws (a, b) = E at hS hI hl1
  generalize WY xs ws (a, b) = F at hS hI hl2
  generalize wok xs ws (a, b) = ok at hS hI
  have nok : (ok != ok) = false := by simp
  have hb0 : Below w.heap.size w ((w.alloc (.cells #[.slice A xs.length c, .slice B ws.length d] 25)).alloc (.cells #[.int .i64 a, .int .i64 b] 50)) := by go_grown
  have kB := (Blk.new w 25 #[.slice A xs.length c, .slice B ws.length d]).alloc (.cells #[.int .i64 a, .int .i64 b] 50)
  have kX := Blk.new (w.alloc (.cells #[.slice A xs.length c, .slice B ws.length d] 25)) 50 #[.int .i64 a, .int .i64 b]
  simp only [World.size_alloc] at kX
  have hr0 := hr
  have hq0 := hq
  replace hr := hr.below hb0
  replace hq := hq.below hb0
  go_enter Try.func12, Try.ntmps12
  go_wp2_with fail
  generalize (w.alloc (.cells #[.slice A xs.length c, .slice B ws.length d] 25)).alloc (.cells #[.int .i64 a, .int .i64 b] 50) = w0 at hr hq hb0 kB kX ⊢
  refine (szDk A B c d xs.length ws.length _ hc hd).mono ?_
  rintro e w1 ⟨s1, rfl, hb1, hok⟩
  have hok' := hide hok
  clear hok
  have hbb := bt hb0 hb1 hb0.size
  replace hr := hr.below hb1
  replace hq := hq.below hb1
  replace kB := kB.below hb1
  replace kX := kX.below hb1
  have hwX := kX.lt
  clear hb0 hb1
  have p0 : w1.cell? ⟨w.heap.size, 0, none⟩ = some (.slice A xs.length c) := kB.cell 0
  have p1 : w1.cell? ⟨w.heap.size, 1, none⟩ = some (.slice B ws.length d) := kB.cell 1
  have p2 : w1.cell? ⟨w.heap.size + 1, 0, none⟩ = some (.int .i64 a) := kX.cell 0
  have p3 : w1.cell? ⟨w.heap.size + 1, 1, none⟩ = some (.int .i64 b) := kX.cell 1
  by_cases h1 : s1 < 0
  · go_wp2_with fail
    go_ret
    exact ⟨rfl, hbb⟩
  · obtain ⟨lx, lw⟩ := hok'.out (by omega)
    clear hok'
    go_wp2_with fail
    go_cut [6, 7] (fun s6 s7 wx => ∃ (K : Nat) (An Bn : Option Addr) (cn dn : Nat), s6 = .pointer (some ⟨K, 0, none⟩) ∧ s7 = .bool ok ∧ w1.heap.size ≤ K ∧ Blk wx K 30 #[.slice An E.length cn, .slice Bn F.length dn] ∧ Below w1.heap.size w1 wx ∧ Rl encD 1 wx An E ∧ Rl encW 2 wx Bn F ∧ RowX 3 1 wx w1.heap.size wx.heap.size An cn E.length ∧ RowX 41 2 wx w1.heap.size wx.heap.size Bn dn F.length ∧ (∀ z, An.map (·.block) = some z → w1.heap.size ≤ z ∧ z < wx.heap.size) ∧ (∀ z, Bn.map (·.block) = some z → w1.heap.size ≤ z ∧ z < wx.heap.size))
    case first =>
      have hbx : Below w1.heap.size w1 w1.drew := (Below.refl _ _).drew
      refine wp_region_noPanic ?_
      refine wp_region_held_drew (S := (fun w' => w'.cell? ⟨w.heap.size, 0, none⟩ = some (.slice A xs.length c) ∧ w'.cell? ⟨w.heap.size, 1, none⟩ = some (.slice B ws.length d) ∧ w'.cell? ⟨w.heap.size + 1, 0, none⟩ = some (.int .i64 a) ∧ w'.cell? ⟨w.heap.size + 1, 1, none⟩ = some (.int .i64 b))) (by kernel_rfl) ?_ ?_
      · exact ⟨cell_on (hbx) p0, cell_on (hbx) p1, cell_on (hbx) p2, cell_on (hbx) p3⟩
      generalize w1.drew = W0 at hbx ⊢
      intro hHeld
      refine wpAnyH_take (i := 0) (oi := _) (v := ?_) rfl (by kernel_rfl) (by kernel_rfl) (by kernel_rfl) (fun _ _ _ h => h) (Or.inl ⟨by rfl, ?_⟩) (by assumption) ?_
      rotate_left
      · (intro wS hSw; (try dsimp only at hSw); (try go_split_ands); (simp only [List.getElem_toArray, List.getElem_cons_succ, List.getElem_cons_zero]); go_simp <;> (with_reducible rfl))
      try simp only [List.getElem_toArray, List.getElem_cons_succ, List.getElem_cons_zero, Act.put, List.setIfInBounds_toArray, List.set_cons_zero, List.set_cons_succ]
      refine wpAnyH_take (i := 2) (oi := _) (v := ?_) rfl (by kernel_rfl) (by kernel_rfl) (by kernel_rfl) (fun _ _ _ h => h) (Or.inl ⟨by rfl, ?_⟩) (by assumption) ?_
      rotate_left
      · (intro wS hSw; (try dsimp only at hSw); (try go_split_ands); (simp only [List.getElem_toArray, List.getElem_cons_succ, List.getElem_cons_zero]); go_simp <;> (with_reducible rfl))
      try simp only [List.getElem_toArray, List.getElem_cons_succ, List.getElem_cons_zero, Act.put, List.setIfInBounds_toArray, List.set_cons_zero, List.set_cons_succ]
      refine wpAnyH_ready (rs := [1, 8]) (by kernel_rfl) (by simp) (AllReadyH.cons (o := _) rfl (fun K hK => ?_) (AllReadyH.cons (o := _) rfl (fun K hK => ?_) AllReadyH.nil))
      · skip -- 1
        simp only [rq0, rq1, rq2]
        go_simp
        (go_at_call 17; refine (toDk A B c d xs ws _ (hr.below hbx) (hq.below hbx) lx lw).mono ?_; rintro e W1 ⟨g2, k2, rfl, r2, q2, hn⟩)
        have hN0 := hbx.size
        replace hbx := bt2 hbx hn
        clear hn hN0
        refine hK.out _ _ ?_ (fun hHeld => ?_)
        · exact ⟨cell_on (hbx) p0, cell_on (hbx) p1, cell_on (hbx) p2, cell_on (hbx) p3⟩
        clear hK K
        try simp only [rq0, rq1, rq2, Act.put, rq3, rq4, rq5]
        refine wpAnyH_ready (rs := [3, 8]) (by kernel_rfl) (by simp) (AllReadyH.cons (o := _) rfl (fun K hK => ?_) (AllReadyH.cons (o := _) rfl (fun K hK => ?_) AllReadyH.nil))
        · skip -- 3
          simp only [rq0, rq1, rq2]
          go_simp
          (go_at_call 35; refine (hTW.out _).mono ?_; rintro e W2 ⟨rfl, hn⟩)
          replace r2 := r2.below hn
          replace q2 := q2.below hn
          have hN0 := hbx.size
          replace hbx := bt2 hbx hn
          clear hn hN0
          refine hK.out _ _ ?_ (fun hHeld => ?_)
          · exact ⟨cell_on (hbx) p0, cell_on (hbx) p1, cell_on (hbx) p2, cell_on (hbx) p3⟩
          clear hK K
          try simp only [rq0, rq1, rq2, Act.put, rq3, rq4, rq5]
          refine wpAnyH_ready (rs := [4, 8]) (by kernel_rfl) (by simp) (AllReadyH.cons (o := _) rfl (fun K hK => ?_) (AllReadyH.cons (o := _) rfl (fun K hK => ?_) AllReadyH.nil))
          · skip -- 4
            simp only [rq0, rq1, rq2]
            go_simp
            (go_at_call 26; refine (hS.out _ _ _ _ _ r2 q2 lx lw).mono ?_; rintro e W3 ⟨An, cn, Bn, dn, rfl, hn, Ln, Mn, Xn, Yn, hAn, hBn⟩)
            replace r2 := r2.below hn
            replace q2 := q2.below hn
            have hN0 := hbx.size
            replace hbx := bt2 hbx hn
            replace Xn := Xn.toB hN0
            replace Yn := Yn.toB hN0
            replace hAn : ∀ z, An.map (·.block) = some z → w1.heap.size ≤ z ∧ z < W3.heap.size := fun z hz => ⟨Nat.le_trans hN0 (hAn z hz).1, (hAn z hz).2⟩
            replace hBn : ∀ z, Bn.map (·.block) = some z → w1.heap.size ≤ z ∧ z < W3.heap.size := fun z hz => ⟨Nat.le_trans hN0 (hBn z hz).1, (hBn z hz).2⟩
            clear hn hN0
            refine hK.out _ _ ?_ (fun hHeld => ?_)
            · exact ⟨cell_on (hbx) p0, cell_on (hbx) p1, cell_on (hbx) p2, cell_on (hbx) p3⟩
            clear hK K
            try simp only [rq0, rq1, rq2, Act.put, rq3, rq4, rq5]
            refine wpAnyH_take (i := 5) (oi := _) (v := ?_) rfl (by kernel_rfl) (by kernel_rfl) (by kernel_rfl) (fun _ _ _ h => h) (Or.inl ⟨by rfl, ?_⟩) (by assumption) ?_
            rotate_left
            · (intro wS hSw; (try dsimp only at hSw); (try go_split_ands); (simp only [List.getElem_toArray, List.getElem_cons_succ, List.getElem_cons_zero]); go_simp <;> (with_reducible rfl))
            try simp only [List.getElem_toArray, List.getElem_cons_succ, List.getElem_cons_zero, Act.put, List.setIfInBounds_toArray, List.set_cons_zero, List.set_cons_succ]
            refine wpAnyH_take (i := 6) (oi := _) (v := ?_) rfl (by kernel_rfl) (by kernel_rfl) (by kernel_rfl) (fun _ _ _ h => h) (Or.inl ⟨by rfl, ?_⟩) (by assumption) ?_
            rotate_left
            · (intro wS hSw; (try dsimp only at hSw); (try go_split_ands); (simp only [List.getElem_toArray, List.getElem_cons_succ, List.getElem_cons_zero]); go_simp <;> (with_reducible rfl))
            try simp only [List.getElem_toArray, List.getElem_cons_succ, List.getElem_cons_zero, Act.put, List.setIfInBounds_toArray, List.set_cons_zero, List.set_cons_succ]
            refine wpAnyH_take (i := 7) (oi := _) (v := ?_) rfl (by kernel_rfl) (by kernel_rfl) (by kernel_rfl) (fun _ _ _ h => h) (Or.inl ⟨by rfl, ?_⟩) (by assumption) ?_
            rotate_left
            · (intro wS hSw; (try dsimp only at hSw); (try go_split_ands); (simp only [List.getElem_toArray, List.getElem_cons_succ, List.getElem_cons_zero]); go_simp <;> (with_reducible rfl))
            try simp only [List.getElem_toArray, List.getElem_cons_succ, List.getElem_cons_zero, Act.put, List.setIfInBounds_toArray, List.set_cons_zero, List.set_cons_succ]
            refine wpAnyH_ready (rs := [8]) (by kernel_rfl) (by simp) (AllReadyH.cons (o := _) rfl (fun K hK => ?_) AllReadyH.nil)
            simp only [rq0, rq1, rq2]
            go_simp
            have hoK : w1.heap.size ≤ W3.heap.size := hbx.size
            have hn : Below W3.heap.size W3 (W3.alloc (.cells #[.slice none 0 0, .slice none 0 0] 30)) := (Below.refl _ _).alloc (Nat.le_refl _) _
            replace r2 := r2.below hn
            replace q2 := q2.below hn
            replace Ln := Ln.below hn
            replace Mn := Mn.below hn
            replace Xn := Xn.below hn
            replace Yn := Yn.below hn
            have out := Blk.new W3 30 #[.slice none 0 0, .slice none 0 0]
            have hbn := bt2 hbx hn
            refine hK.out _ _ ?_ (fun hHeld => ?_)
            · exact ⟨cell_on (hbn) p0, cell_on (hbn) p1, cell_on (hbn) p2, cell_on (hbn) p3⟩
            clear hK K
            try simp only [rq0, rq1, rq2, Act.put, rq3, rq4, rq5]
            replace hbx := hbn
            have hsz4 : W3.heap.size ≤ (W3.alloc (.cells #[.slice none 0 0, .slice none 0 0] 30)).heap.size := by simp
            clear hbn hn
            generalize W3.alloc (.cells #[.slice none 0 0, .slice none 0 0] 30) = W4 at hbx hsz4 r2 q2 Ln Mn Xn Yn out ⊢
            refine wpAnyH_ready (rs := [9]) (by kernel_rfl) (by simp) (AllReadyH.cons (o := _) rfl (fun K hK => ?_) AllReadyH.nil)
            have r0 : W4.cell? ⟨W3.heap.size, 0, none⟩ = some (.slice none 0 0) := out.cell 0
            have r1 : W4.cell? ⟨W3.heap.size, 1, none⟩ = some (.slice none 0 0) := out.cell 1
            have s0 : W4.frozen? ⟨W3.heap.size, 0, none⟩ = false := out.free 0
            have s1 : W4.frozen? ⟨W3.heap.size, 1, none⟩ = false := out.free 1
            simp only [rq0, rq1, rq2]
            go_simp
            refine hK.out _ _ ?_ (fun hHeld => ?_)
            · exact ⟨cell_on ((hbx.setCell hoK _).setCell hoK _) p0, cell_on ((hbx.setCell hoK _).setCell hoK _) p1, cell_on ((hbx.setCell hoK _).setCell hoK _) p2, cell_on ((hbx.setCell hoK _).setCell hoK _) p3⟩
            clear hK K
            try simp only [rq0, rq1, rq2, Act.put, rq3, rq4, rq5]
            clear r0 r1 s0 s1
            refine wpAnyH_take (i := 10) (oi := _) (v := ?_) rfl (by kernel_rfl) (by kernel_rfl) (by kernel_rfl) (fun _ _ _ h => h) (Or.inl ⟨by rfl, ?_⟩) (by assumption) ?_
            rotate_left
            · (intro wS hSw; (try dsimp only at hSw); (try go_split_ands); (simp only [List.getElem_toArray, List.getElem_cons_succ, List.getElem_cons_zero]); go_simp <;> (with_reducible rfl))
            try simp only [List.getElem_toArray, List.getElem_cons_succ, List.getElem_cons_zero, Act.put, List.setIfInBounds_toArray, List.set_cons_zero, List.set_cons_succ]
            refine wpAnyH_done (by kernel_rfl) ?_ _
            refine NoPanic.normal ?_
            clear hHeld
            have kF : Blk ((W4.setCell ⟨W3.heap.size, 0, none⟩ (.slice An E.length cn)).setCell ⟨W3.heap.size, 1, none⟩ (.slice Bn F.length dn)) (W3.heap.size) 30 #[.slice An E.length cn, .slice Bn F.length dn] := by simpa using (out.set 0 (.slice An E.length cn)).set 1 (.slice Bn F.length dn)
            have gF := grown_set (grown_set (g := W3.heap.size) (World.grownBy.refl W4 _) (p := ⟨W3.heap.size, 0, none⟩) (.inl rfl) (.slice An E.length cn)) (p := ⟨W3.heap.size, 1, none⟩) (.inl rfl) (.slice Bn F.length dn)
            go_wp2_with fail
            go_meet
            exact ⟨W3.heap.size, An, Bn, cn, dn, rfl, rfl, hoK, kF, (hbx.setCell hoK _).setCell hoK _, rl_out Xn Ln out gF, rl_out Yn Mn out gF, rowx_out Xn out gF, rowx_out Yn out gF, fun z hz => ⟨(hAn z hz).1, by have := (hAn z hz).2; simp [World.setCell]; omega⟩, fun z hz => ⟨(hBn z hz).1, by have := (hBn z hz).2; simp [World.setCell]; omega⟩⟩
          · skip -- 8
            simp only [rq0, rq1, rq2]
            go_simp
            have hoK : w1.heap.size ≤ W2.heap.size := hbx.size
            have hn : Below W2.heap.size W2 (W2.alloc (.cells #[.slice none 0 0, .slice none 0 0] 30)) := (Below.refl _ _).alloc (Nat.le_refl _) _
            replace r2 := r2.below hn
            replace q2 := q2.below hn
            have out := Blk.new W2 30 #[.slice none 0 0, .slice none 0 0]
            have hbn := bt2 hbx hn
            refine hK.out _ _ ?_ (fun hHeld => ?_)
            · exact ⟨cell_on (hbn) p0, cell_on (hbn) p1, cell_on (hbn) p2, cell_on (hbn) p3⟩
            clear hK K
            try simp only [rq0, rq1, rq2, Act.put, rq3, rq4, rq5]
            replace hbx := hbn
            have hsz3 : W2.heap.size ≤ (W2.alloc (.cells #[.slice none 0 0, .slice none 0 0] 30)).heap.size := by simp
            clear hbn hn
            generalize W2.alloc (.cells #[.slice none 0 0, .slice none 0 0] 30) = W3 at hbx hsz3 r2 q2 out ⊢
            refine wpAnyH_ready (rs := [4]) (by kernel_rfl) (by simp) (AllReadyH.cons (o := _) rfl (fun K hK => ?_) AllReadyH.nil)
            simp only [rq0, rq1, rq2]
            go_simp
            (go_at_call 26; refine (hS.out _ _ _ _ _ r2 q2 lx lw).mono ?_; rintro e W4 ⟨An, cn, Bn, dn, rfl, hn, Ln, Mn, Xn, Yn, hAn, hBn⟩)
            replace r2 := r2.below hn
            replace q2 := q2.below hn
            replace out := out.below hn
            have hN0 := hbx.size
            replace hbx := bt2 hbx hn
            replace Xn := Xn.toB hN0
            replace Yn := Yn.toB hN0
            replace hAn : ∀ z, An.map (·.block) = some z → w1.heap.size ≤ z ∧ z < W4.heap.size := fun z hz => ⟨Nat.le_trans hN0 (hAn z hz).1, (hAn z hz).2⟩
            replace hBn : ∀ z, Bn.map (·.block) = some z → w1.heap.size ≤ z ∧ z < W4.heap.size := fun z hz => ⟨Nat.le_trans hN0 (hBn z hz).1, (hBn z hz).2⟩
            clear hn hN0
            refine hK.out _ _ ?_ (fun hHeld => ?_)
            · exact ⟨cell_on (hbx) p0, cell_on (hbx) p1, cell_on (hbx) p2, cell_on (hbx) p3⟩
            clear hK K
            try simp only [rq0, rq1, rq2, Act.put, rq3, rq4, rq5]
            refine wpAnyH_take (i := 5) (oi := _) (v := ?_) rfl (by kernel_rfl) (by kernel_rfl) (by kernel_rfl) (fun _ _ _ h => h) (Or.inl ⟨by rfl, ?_⟩) (by assumption) ?_
            rotate_left
            · (intro wS hSw; (try dsimp only at hSw); (try go_split_ands); (simp only [List.getElem_toArray, List.getElem_cons_succ, List.getElem_cons_zero]); go_simp <;> (with_reducible rfl))
            try simp only [List.getElem_toArray, List.getElem_cons_succ, List.getElem_cons_zero, Act.put, List.setIfInBounds_toArray, List.set_cons_zero, List.set_cons_succ]
            refine wpAnyH_take (i := 6) (oi := _) (v := ?_) rfl (by kernel_rfl) (by kernel_rfl) (by kernel_rfl) (fun _ _ _ h => h) (Or.inl ⟨by rfl, ?_⟩) (by assumption) ?_
            rotate_left
            · (intro wS hSw; (try dsimp only at hSw); (try go_split_ands); (simp only [List.getElem_toArray, List.getElem_cons_succ, List.getElem_cons_zero]); go_simp <;> (with_reducible rfl))
            try simp only [List.getElem_toArray, List.getElem_cons_succ, List.getElem_cons_zero, Act.put, List.setIfInBounds_toArray, List.set_cons_zero, List.set_cons_succ]
            refine wpAnyH_take (i := 7) (oi := _) (v := ?_) rfl (by kernel_rfl) (by kernel_rfl) (by kernel_rfl) (fun _ _ _ h => h) (Or.inl ⟨by rfl, ?_⟩) (by assumption) ?_
            rotate_left
            · (intro wS hSw; (try dsimp only at hSw); (try go_split_ands); (simp only [List.getElem_toArray, List.getElem_cons_succ, List.getElem_cons_zero]); go_simp <;> (with_reducible rfl))
            try simp only [List.getElem_toArray, List.getElem_cons_succ, List.getElem_cons_zero, Act.put, List.setIfInBounds_toArray, List.set_cons_zero, List.set_cons_succ]
            refine wpAnyH_ready (rs := [9]) (by kernel_rfl) (by simp) (AllReadyH.cons (o := _) rfl (fun K hK => ?_) AllReadyH.nil)
            have r0 : W4.cell? ⟨W2.heap.size, 0, none⟩ = some (.slice none 0 0) := out.cell 0
            have r1 : W4.cell? ⟨W2.heap.size, 1, none⟩ = some (.slice none 0 0) := out.cell 1
            have s0 : W4.frozen? ⟨W2.heap.size, 0, none⟩ = false := out.free 0
            have s1 : W4.frozen? ⟨W2.heap.size, 1, none⟩ = false := out.free 1
            simp only [rq0, rq1, rq2]
            go_simp
            refine hK.out _ _ ?_ (fun hHeld => ?_)
            · exact ⟨cell_on ((hbx.setCell hoK _).setCell hoK _) p0, cell_on ((hbx.setCell hoK _).setCell hoK _) p1, cell_on ((hbx.setCell hoK _).setCell hoK _) p2, cell_on ((hbx.setCell hoK _).setCell hoK _) p3⟩
            clear hK K
            try simp only [rq0, rq1, rq2, Act.put, rq3, rq4, rq5]
            clear r0 r1 s0 s1
            refine wpAnyH_take (i := 10) (oi := _) (v := ?_) rfl (by kernel_rfl) (by kernel_rfl) (by kernel_rfl) (fun _ _ _ h => h) (Or.inl ⟨by rfl, ?_⟩) (by assumption) ?_
            rotate_left
            · (intro wS hSw; (try dsimp only at hSw); (try go_split_ands); (simp only [List.getElem_toArray, List.getElem_cons_succ, List.getElem_cons_zero]); go_simp <;> (with_reducible rfl))
            try simp only [List.getElem_toArray, List.getElem_cons_succ, List.getElem_cons_zero, Act.put, List.setIfInBounds_toArray, List.set_cons_zero, List.set_cons_succ]
            refine wpAnyH_done (by kernel_rfl) ?_ _
            refine NoPanic.normal ?_
            clear hHeld
            have kF : Blk ((W4.setCell ⟨W2.heap.size, 0, none⟩ (.slice An E.length cn)).setCell ⟨W2.heap.size, 1, none⟩ (.slice Bn F.length dn)) (W2.heap.size) 30 #[.slice An E.length cn, .slice Bn F.length dn] := by simpa using (out.set 0 (.slice An E.length cn)).set 1 (.slice Bn F.length dn)
            have gF := grown_set (grown_set (g := W2.heap.size) (World.grownBy.refl W4 _) (p := ⟨W2.heap.size, 0, none⟩) (.inl rfl) (.slice An E.length cn)) (p := ⟨W2.heap.size, 1, none⟩) (.inl rfl) (.slice Bn F.length dn)
            go_wp2_with fail
            go_meet
            exact ⟨W2.heap.size, An, Bn, cn, dn, rfl, rfl, hoK, kF, (hbx.setCell hoK _).setCell hoK _, rl_out Xn Ln out gF, rl_out Yn Mn out gF, rowx_out Xn out gF, rowx_out Yn out gF, fun z hz => ⟨(hAn z hz).1, by have := (hAn z hz).2; simp [World.setCell]; omega⟩, fun z hz => ⟨(hBn z hz).1, by have := (hBn z hz).2; simp [World.setCell]; omega⟩⟩
        · skip -- 8
          simp only [rq0, rq1, rq2]
          go_simp
          have hoK : w1.heap.size ≤ W1.heap.size := hbx.size
          have hn : Below W1.heap.size W1 (W1.alloc (.cells #[.slice none 0 0, .slice none 0 0] 30)) := (Below.refl _ _).alloc (Nat.le_refl _) _
          replace r2 := r2.below hn
          replace q2 := q2.below hn
          have out := Blk.new W1 30 #[.slice none 0 0, .slice none 0 0]
          have hbn := bt2 hbx hn
          refine hK.out _ _ ?_ (fun hHeld => ?_)
          · exact ⟨cell_on (hbn) p0, cell_on (hbn) p1, cell_on (hbn) p2, cell_on (hbn) p3⟩
          clear hK K
          try simp only [rq0, rq1, rq2, Act.put, rq3, rq4, rq5]
          replace hbx := hbn
          have hsz2 : W1.heap.size ≤ (W1.alloc (.cells #[.slice none 0 0, .slice none 0 0] 30)).heap.size := by simp
          clear hbn hn
          generalize W1.alloc (.cells #[.slice none 0 0, .slice none 0 0] 30) = W2 at hbx hsz2 r2 q2 out ⊢
          refine wpAnyH_ready (rs := [3]) (by kernel_rfl) (by simp) (AllReadyH.cons (o := _) rfl (fun K hK => ?_) AllReadyH.nil)
          simp only [rq0, rq1, rq2]
          go_simp
          (go_at_call 35; refine (hTW.out _).mono ?_; rintro e W3 ⟨rfl, hn⟩)
          replace r2 := r2.below hn
          replace q2 := q2.below hn
          replace out := out.below hn
          have hN0 := hbx.size
          replace hbx := bt2 hbx hn
          clear hn hN0
          refine hK.out _ _ ?_ (fun hHeld => ?_)
          · exact ⟨cell_on (hbx) p0, cell_on (hbx) p1, cell_on (hbx) p2, cell_on (hbx) p3⟩
          clear hK K
          try simp only [rq0, rq1, rq2, Act.put, rq3, rq4, rq5]
          refine wpAnyH_ready (rs := [4]) (by kernel_rfl) (by simp) (AllReadyH.cons (o := _) rfl (fun K hK => ?_) AllReadyH.nil)
          simp only [rq0, rq1, rq2]
          go_simp
          (go_at_call 26; refine (hS.out _ _ _ _ _ r2 q2 lx lw).mono ?_; rintro e W4 ⟨An, cn, Bn, dn, rfl, hn, Ln, Mn, Xn, Yn, hAn, hBn⟩)
          replace r2 := r2.below hn
          replace q2 := q2.below hn
          replace out := out.below hn
          have hN0 := hbx.size
          replace hbx := bt2 hbx hn
          replace Xn := Xn.toB hN0
          replace Yn := Yn.toB hN0
          replace hAn : ∀ z, An.map (·.block) = some z → w1.heap.size ≤ z ∧ z < W4.heap.size := fun z hz => ⟨Nat.le_trans hN0 (hAn z hz).1, (hAn z hz).2⟩
          replace hBn : ∀ z, Bn.map (·.block) = some z → w1.heap.size ≤ z ∧ z < W4.heap.size := fun z hz => ⟨Nat.le_trans hN0 (hBn z hz).1, (hBn z hz).2⟩
          clear hn hN0
          refine hK.out _ _ ?_ (fun hHeld => ?_)
          · exact ⟨cell_on (hbx) p0, cell_on (hbx) p1, cell_on (hbx) p2, cell_on (hbx) p3⟩
          clear hK K
          try simp only [rq0, rq1, rq2, Act.put, rq3, rq4, rq5]
          refine wpAnyH_take (i := 5) (oi := _) (v := ?_) rfl (by kernel_rfl) (by kernel_rfl) (by kernel_rfl) (fun _ _ _ h => h) (Or.inl ⟨by rfl, ?_⟩) (by assumption) ?_
          rotate_left
          · (intro wS hSw; (try dsimp only at hSw); (try go_split_ands); (simp only [List.getElem_toArray, List.getElem_cons_succ, List.getElem_cons_zero]); go_simp <;> (with_reducible rfl))
          try simp only [List.getElem_toArray, List.getElem_cons_succ, List.getElem_cons_zero, Act.put, List.setIfInBounds_toArray, List.set_cons_zero, List.set_cons_succ]
          refine wpAnyH_take (i := 6) (oi := _) (v := ?_) rfl (by kernel_rfl) (by kernel_rfl) (by kernel_rfl) (fun _ _ _ h => h) (Or.inl ⟨by rfl, ?_⟩) (by assumption) ?_
          rotate_left
          · (intro wS hSw; (try dsimp only at hSw); (try go_split_ands); (simp only [List.getElem_toArray, List.getElem_cons_succ, List.getElem_cons_zero]); go_simp <;> (with_reducible rfl))
          try simp only [List.getElem_toArray, List.getElem_cons_succ, List.getElem_cons_zero, Act.put, List.setIfInBounds_toArray, List.set_cons_zero, List.set_cons_succ]
          refine wpAnyH_take (i := 7) (oi := _) (v := ?_) rfl (by kernel_rfl) (by kernel_rfl) (by kernel_rfl) (fun _ _ _ h => h) (Or.inl ⟨by rfl, ?_⟩) (by assumption) ?_
          rotate_left
          · (intro wS hSw; (try dsimp only at hSw); (try go_split_ands); (simp only [List.getElem_toArray, List.getElem_cons_succ, List.getElem_cons_zero]); go_simp <;> (with_reducible rfl))
          try simp only [List.getElem_toArray, List.getElem_cons_succ, List.getElem_cons_zero, Act.put, List.setIfInBounds_toArray, List.set_cons_zero, List.set_cons_succ]
          refine wpAnyH_ready (rs := [9]) (by kernel_rfl) (by simp) (AllReadyH.cons (o := _) rfl (fun K hK => ?_) AllReadyH.nil)
          have r0 : W4.cell? ⟨W1.heap.size, 0, none⟩ = some (.slice none 0 0) := out.cell 0
          have r1 : W4.cell? ⟨W1.heap.size, 1, none⟩ = some (.slice none 0 0) := out.cell 1
          have s0 : W4.frozen? ⟨W1.heap.size, 0, none⟩ = false := out.free 0
          have s1 : W4.frozen? ⟨W1.heap.size, 1, none⟩ = false := out.free 1
          simp only [rq0, rq1, rq2]
          go_simp
          refine hK.out _ _ ?_ (fun hHeld => ?_)
          · exact ⟨cell_on ((hbx.setCell hoK _).setCell hoK _) p0, cell_on ((hbx.setCell hoK _).setCell hoK _) p1, cell_on ((hbx.setCell hoK _).setCell hoK _) p2, cell_on ((hbx.setCell hoK _).setCell hoK _) p3⟩
          clear hK K
          try simp only [rq0, rq1, rq2, Act.put, rq3, rq4, rq5]
          clear r0 r1 s0 s1
          refine wpAnyH_take (i := 10) (oi := _) (v := ?_) rfl (by kernel_rfl) (by kernel_rfl) (by kernel_rfl) (fun _ _ _ h => h) (Or.inl ⟨by rfl, ?_⟩) (by assumption) ?_
          rotate_left
          · (intro wS hSw; (try dsimp only at hSw); (try go_split_ands); (simp only [List.getElem_toArray, List.getElem_cons_succ, List.getElem_cons_zero]); go_simp <;> (with_reducible rfl))
          try simp only [List.getElem_toArray, List.getElem_cons_succ, List.getElem_cons_zero, Act.put, List.setIfInBounds_toArray, List.set_cons_zero, List.set_cons_succ]
          refine wpAnyH_done (by kernel_rfl) ?_ _
          refine NoPanic.normal ?_
          clear hHeld
          have kF : Blk ((W4.setCell ⟨W1.heap.size, 0, none⟩ (.slice An E.length cn)).setCell ⟨W1.heap.size, 1, none⟩ (.slice Bn F.length dn)) (W1.heap.size) 30 #[.slice An E.length cn, .slice Bn F.length dn] := by simpa using (out.set 0 (.slice An E.length cn)).set 1 (.slice Bn F.length dn)
          have gF := grown_set (grown_set (g := W1.heap.size) (World.grownBy.refl W4 _) (p := ⟨W1.heap.size, 0, none⟩) (.inl rfl) (.slice An E.length cn)) (p := ⟨W1.heap.size, 1, none⟩) (.inl rfl) (.slice Bn F.length dn)
          go_wp2_with fail
          go_meet
          exact ⟨W1.heap.size, An, Bn, cn, dn, rfl, rfl, hoK, kF, (hbx.setCell hoK _).setCell hoK _, rl_out Xn Ln out gF, rl_out Yn Mn out gF, rowx_out Xn out gF, rowx_out Yn out gF, fun z hz => ⟨(hAn z hz).1, by have := (hAn z hz).2; simp [World.setCell]; omega⟩, fun z hz => ⟨(hBn z hz).1, by have := (hBn z hz).2; simp [World.setCell]; omega⟩⟩
      · skip -- 8
        simp only [rq0, rq1, rq2]
        go_simp
        have hoK : w1.heap.size ≤ W0.heap.size := hbx.size
        have hn : Below W0.heap.size W0 (W0.alloc (.cells #[.slice none 0 0, .slice none 0 0] 30)) := (Below.refl _ _).alloc (Nat.le_refl _) _
        have out := Blk.new W0 30 #[.slice none 0 0, .slice none 0 0]
        have hbn := bt2 hbx hn
        refine hK.out _ _ ?_ (fun hHeld => ?_)
        · exact ⟨cell_on (hbn) p0, cell_on (hbn) p1, cell_on (hbn) p2, cell_on (hbn) p3⟩
        clear hK K
        try simp only [rq0, rq1, rq2, Act.put, rq3, rq4, rq5]
        replace hbx := hbn
        have hsz1 : W0.heap.size ≤ (W0.alloc (.cells #[.slice none 0 0, .slice none 0 0] 30)).heap.size := by simp
        clear hbn hn
        generalize W0.alloc (.cells #[.slice none 0 0, .slice none 0 0] 30) = W1 at hbx hsz1 out ⊢
        refine wpAnyH_ready (rs := [1]) (by kernel_rfl) (by simp) (AllReadyH.cons (o := _) rfl (fun K hK => ?_) AllReadyH.nil)
        simp only [rq0, rq1, rq2]
        go_simp
        (go_at_call 17; refine (toDk A B c d xs ws _ (hr.below hbx) (hq.below hbx) lx lw).mono ?_; rintro e W2 ⟨g2, k2, rfl, r2, q2, hn⟩)
        replace out := out.below hn
        have hN0 := hbx.size
        replace hbx := bt2 hbx hn
        clear hn hN0
        refine hK.out _ _ ?_ (fun hHeld => ?_)
        · exact ⟨cell_on (hbx) p0, cell_on (hbx) p1, cell_on (hbx) p2, cell_on (hbx) p3⟩
        clear hK K
        try simp only [rq0, rq1, rq2, Act.put, rq3, rq4, rq5]
        refine wpAnyH_ready (rs := [3]) (by kernel_rfl) (by simp) (AllReadyH.cons (o := _) rfl (fun K hK => ?_) AllReadyH.nil)
        simp only [rq0, rq1, rq2]
        go_simp
        (go_at_call 35; refine (hTW.out _).mono ?_; rintro e W3 ⟨rfl, hn⟩)
        replace out := out.below hn
        replace r2 := r2.below hn
        replace q2 := q2.below hn
        have hN0 := hbx.size
        replace hbx := bt2 hbx hn
        clear hn hN0
        refine hK.out _ _ ?_ (fun hHeld => ?_)
        · exact ⟨cell_on (hbx) p0, cell_on (hbx) p1, cell_on (hbx) p2, cell_on (hbx) p3⟩
        clear hK K
        try simp only [rq0, rq1, rq2, Act.put, rq3, rq4, rq5]
        refine wpAnyH_ready (rs := [4]) (by kernel_rfl) (by simp) (AllReadyH.cons (o := _) rfl (fun K hK => ?_) AllReadyH.nil)
        simp only [rq0, rq1, rq2]
        go_simp
        (go_at_call 26; refine (hS.out _ _ _ _ _ r2 q2 lx lw).mono ?_; rintro e W4 ⟨An, cn, Bn, dn, rfl, hn, Ln, Mn, Xn, Yn, hAn, hBn⟩)
        replace out := out.below hn
        replace r2 := r2.below hn
        replace q2 := q2.below hn
        have hN0 := hbx.size
        replace hbx := bt2 hbx hn
        replace Xn := Xn.toB hN0
        replace Yn := Yn.toB hN0
        replace hAn : ∀ z, An.map (·.block) = some z → w1.heap.size ≤ z ∧ z < W4.heap.size := fun z hz => ⟨Nat.le_trans hN0 (hAn z hz).1, (hAn z hz).2⟩
        replace hBn : ∀ z, Bn.map (·.block) = some z → w1.heap.size ≤ z ∧ z < W4.heap.size := fun z hz => ⟨Nat.le_trans hN0 (hBn z hz).1, (hBn z hz).2⟩
        clear hn hN0
        refine hK.out _ _ ?_ (fun hHeld => ?_)
        · exact ⟨cell_on (hbx) p0, cell_on (hbx) p1, cell_on (hbx) p2, cell_on (hbx) p3⟩
        clear hK K
        try simp only [rq0, rq1, rq2, Act.put, rq3, rq4, rq5]
        refine wpAnyH_take (i := 5) (oi := _) (v := ?_) rfl (by kernel_rfl) (by kernel_rfl) (by kernel_rfl) (fun _ _ _ h => h) (Or.inl ⟨by rfl, ?_⟩) (by assumption) ?_
        rotate_left
        · (intro wS hSw; (try dsimp only at hSw); (try go_split_ands); (simp only [List.getElem_toArray, List.getElem_cons_succ, List.getElem_cons_zero]); go_simp <;> (with_reducible rfl))
        try simp only [List.getElem_toArray, List.getElem_cons_succ, List.getElem_cons_zero, Act.put, List.setIfInBounds_toArray, List.set_cons_zero, List.set_cons_succ]
        refine wpAnyH_take (i := 6) (oi := _) (v := ?_) rfl (by kernel_rfl) (by kernel_rfl) (by kernel_rfl) (fun _ _ _ h => h) (Or.inl ⟨by rfl, ?_⟩) (by assumption) ?_
        rotate_left
        · (intro wS hSw; (try dsimp only at hSw); (try go_split_ands); (simp only [List.getElem_toArray, List.getElem_cons_succ, List.getElem_cons_zero]); go_simp <;> (with_reducible rfl))
        try simp only [List.getElem_toArray, List.getElem_cons_succ, List.getElem_cons_zero, Act.put, List.setIfInBounds_toArray, List.set_cons_zero, List.set_cons_succ]
        refine wpAnyH_take (i := 7) (oi := _) (v := ?_) rfl (by kernel_rfl) (by kernel_rfl) (by kernel_rfl) (fun _ _ _ h => h) (Or.inl ⟨by rfl, ?_⟩) (by assumption) ?_
        rotate_left
        · (intro wS hSw; (try dsimp only at hSw); (try go_split_ands); (simp only [List.getElem_toArray, List.getElem_cons_succ, List.getElem_cons_zero]); go_simp <;> (with_reducible rfl))
        try simp only [List.getElem_toArray, List.getElem_cons_succ, List.getElem_cons_zero, Act.put, List.setIfInBounds_toArray, List.set_cons_zero, List.set_cons_succ]
        refine wpAnyH_ready (rs := [9]) (by kernel_rfl) (by simp) (AllReadyH.cons (o := _) rfl (fun K hK => ?_) AllReadyH.nil)
        have r0 : W4.cell? ⟨W0.heap.size, 0, none⟩ = some (.slice none 0 0) := out.cell 0
        have r1 : W4.cell? ⟨W0.heap.size, 1, none⟩ = some (.slice none 0 0) := out.cell 1
        have s0 : W4.frozen? ⟨W0.heap.size, 0, none⟩ = false := out.free 0
        have s1 : W4.frozen? ⟨W0.heap.size, 1, none⟩ = false := out.free 1
        simp only [rq0, rq1, rq2]
        go_simp
        refine hK.out _ _ ?_ (fun hHeld => ?_)
        · exact ⟨cell_on ((hbx.setCell hoK _).setCell hoK _) p0, cell_on ((hbx.setCell hoK _).setCell hoK _) p1, cell_on ((hbx.setCell hoK _).setCell hoK _) p2, cell_on ((hbx.setCell hoK _).setCell hoK _) p3⟩
        clear hK K
        try simp only [rq0, rq1, rq2, Act.put, rq3, rq4, rq5]
        clear r0 r1 s0 s1
        refine wpAnyH_take (i := 10) (oi := _) (v := ?_) rfl (by kernel_rfl) (by kernel_rfl) (by kernel_rfl) (fun _ _ _ h => h) (Or.inl ⟨by rfl, ?_⟩) (by assumption) ?_
        rotate_left
        · (intro wS hSw; (try dsimp only at hSw); (try go_split_ands); (simp only [List.getElem_toArray, List.getElem_cons_succ, List.getElem_cons_zero]); go_simp <;> (with_reducible rfl))
        try simp only [List.getElem_toArray, List.getElem_cons_succ, List.getElem_cons_zero, Act.put, List.setIfInBounds_toArray, List.set_cons_zero, List.set_cons_succ]
        refine wpAnyH_done (by kernel_rfl) ?_ _
        refine NoPanic.normal ?_
        clear hHeld
        have kF : Blk ((W4.setCell ⟨W0.heap.size, 0, none⟩ (.slice An E.length cn)).setCell ⟨W0.heap.size, 1, none⟩ (.slice Bn F.length dn)) (W0.heap.size) 30 #[.slice An E.length cn, .slice Bn F.length dn] := by simpa using (out.set 0 (.slice An E.length cn)).set 1 (.slice Bn F.length dn)
        have gF := grown_set (grown_set (g := W0.heap.size) (World.grownBy.refl W4 _) (p := ⟨W0.heap.size, 0, none⟩) (.inl rfl) (.slice An E.length cn)) (p := ⟨W0.heap.size, 1, none⟩) (.inl rfl) (.slice Bn F.length dn)
        go_wp2_with fail
        go_meet
        exact ⟨W0.heap.size, An, Bn, cn, dn, rfl, rfl, hoK, kF, (hbx.setCell hoK _).setCell hoK _, rl_out Xn Ln out gF, rl_out Yn Mn out gF, rowx_out Xn out gF, rowx_out Yn out gF, fun z hz => ⟨(hAn z hz).1, by have := (hAn z hz).2; simp [World.setCell]; omega⟩, fun z hz => ⟨(hBn z hz).1, by have := (hBn z hz).2; simp [World.setCell]; omega⟩⟩
    case rest =>
      obtain ⟨K6, A6, B6, c6, d6, rfl, rfl, hK6, k6, hn, L6, M6, -, -, hA6, hB6⟩ := hcut
      obtain ⟨w2, rfl⟩ : ∃ w2, w2 = wc := ⟨_, rfl⟩
      have hz2 := hn.size
      have hk6l := k6.lt
      replace hr := hr.below hn
      replace hq := hq.below hn
      replace kB := kB.below hn
      replace kX := kX.below hn
      replace p0 := cell_on hn p0
      replace p1 := cell_on hn p1
      replace p2 := cell_on hn p2
      replace p3 := cell_on hn p3
      replace hbb := bt2 hbb hn
      clear hn
      go_wp2_with fail
      refine (toDe A B c d xs ws _ hr hq lx lw).mono ?_
      rintro e w3 ⟨g4, k4, rfl, r4, q4, hn, hg4, hk4, hgk4, F4, G4⟩
      have hz3 := hn.size
      replace hr := hr.below hn
      replace hq := hq.below hn
      replace kB := kB.below hn
      replace kX := kX.below hn
      replace k6 := k6.below hn
      replace L6 := L6.below hn
      replace M6 := M6.below hn
      replace p0 := cell_on hn p0
      replace p1 := cell_on hn p1
      replace p2 := cell_on hn p2
      replace p3 := cell_on hn p3
      replace hbb := bt2 hbb hn
      clear hn
      have hg4l := F4.lt
      have hk4l := G4.lt
      have hn : Below w3.heap.size w3 (w3.alloc (.cells #[.slice (some ⟨g4, 0, none⟩) xs.length xs.length, .slice (some ⟨k4, 0, none⟩) ws.length ws.length] 30)) := (Below.refl _ _).alloc (Nat.le_refl _) _
      have k8 := Blk.new w3 30 #[.slice (some ⟨g4, 0, none⟩) xs.length xs.length, .slice (some ⟨k4, 0, none⟩) ws.length ws.length]
      have hz4 : (w3.alloc (.cells #[.slice (some ⟨g4, 0, none⟩) xs.length xs.length, .slice (some ⟨k4, 0, none⟩) ws.length ws.length] 30)).heap.size = w3.heap.size + 1 := World.size_alloc _ _
      replace hr := hr.below hn
      replace hq := hq.below hn
      replace kB := kB.below hn
      replace kX := kX.below hn
      replace k6 := k6.below hn
      replace L6 := L6.below hn
      replace M6 := M6.below hn
      replace r4 := r4.below hn
      replace q4 := q4.below hn
      replace F4 := F4.below hn
      replace G4 := G4.below hn
      replace p0 := cell_on hn p0
      replace p1 := cell_on hn p1
      replace p2 := cell_on hn p2
      replace p3 := cell_on hn p3
      replace hbb := bt2 hbb hn
      clear hn
      go_wp2_with fail
      generalize w3.alloc (.cells #[.slice (some ⟨g4, 0, none⟩) xs.length xs.length, .slice (some ⟨k4, 0, none⟩) ws.length ws.length] 30) = w4 at hr hq kB kX k6 L6 M6 r4 q4 F4 G4 p0 p1 p2 p3 hbb k8 hz4 ⊢
      have x0 : w4.cell? ⟨w3.heap.size, 0, none⟩ = some (.slice (some ⟨g4, 0, none⟩) xs.length xs.length) := k8.cell 0
      have x1 : w4.cell? ⟨w3.heap.size, 1, none⟩ = some (.slice (some ⟨k4, 0, none⟩) ws.length ws.length) := k8.cell 1
      have hz4' := hide hz4
      clear hz4
      go_cut [9, 10] (fun s9 s10 wx => ∃ (K : Nat) (An Bn : Option Addr) (cn dn : Nat), s9 = .pointer (some ⟨K, 0, none⟩) ∧ s10 = .bool ok ∧ w4.heap.size ≤ K ∧ Blk wx K 30 #[.slice An E.length cn, .slice Bn F.length dn] ∧ Below w4.heap.size w4 wx ∧ Rl encD 1 wx An E ∧ Rl encW 2 wx Bn F ∧ RowX 3 1 wx w4.heap.size wx.heap.size An cn E.length ∧ RowX 41 2 wx w4.heap.size wx.heap.size Bn dn F.length ∧ (∀ z, An.map (·.block) = some z → w4.heap.size ≤ z ∧ z < wx.heap.size) ∧ (∀ z, Bn.map (·.block) = some z → w4.heap.size ≤ z ∧ z < wx.heap.size))
      case first =>
        have hbx : Below w4.heap.size w4 w4.drew := (Below.refl _ _).drew
        refine wp_region_noPanic ?_
        refine wp_region_held_drew (S := (fun w' => w'.cell? ⟨w3.heap.size, 0, none⟩ = some (.slice (some ⟨g4, 0, none⟩) xs.length xs.length) ∧ w'.cell? ⟨w3.heap.size, 1, none⟩ = some (.slice (some ⟨k4, 0, none⟩) ws.length ws.length) ∧ w'.cell? ⟨w.heap.size + 1, 0, none⟩ = some (.int .i64 a) ∧ w'.cell? ⟨w.heap.size + 1, 1, none⟩ = some (.int .i64 b))) (by kernel_rfl) ?_ ?_
        · exact ⟨cell_on (hbx) x0, cell_on (hbx) x1, cell_on (hbx) p2, cell_on (hbx) p3⟩
        generalize w4.drew = W0 at hbx ⊢
        intro hHeld
        refine wpAnyH_take (i := 0) (oi := _) (v := ?_) rfl (by kernel_rfl) (by kernel_rfl) (by kernel_rfl) (fun _ _ _ h => h) (Or.inl ⟨by rfl, ?_⟩) (by assumption) ?_
        rotate_left
        · (intro wS hSw; (try dsimp only at hSw); (try go_split_ands); (simp only [List.getElem_toArray, List.getElem_cons_succ, List.getElem_cons_zero]); go_simp <;> (with_reducible rfl))
        try simp only [List.getElem_toArray, List.getElem_cons_succ, List.getElem_cons_zero, Act.put, List.setIfInBounds_toArray, List.set_cons_zero, List.set_cons_succ]
        refine wpAnyH_take (i := 1) (oi := _) (v := ?_) rfl (by kernel_rfl) (by kernel_rfl) (by kernel_rfl) (fun _ _ _ h => h) (Or.inl ⟨by rfl, ?_⟩) (by assumption) ?_
        rotate_left
        · (intro wS hSw; (try dsimp only at hSw); (try go_split_ands); (simp only [List.getElem_toArray, List.getElem_cons_succ, List.getElem_cons_zero]); go_simp <;> (with_reducible rfl))
        try simp only [List.getElem_toArray, List.getElem_cons_succ, List.getElem_cons_zero, Act.put, List.setIfInBounds_toArray, List.set_cons_zero, List.set_cons_succ]
        refine wpAnyH_ready (rs := [2, 7]) (by kernel_rfl) (by simp) (AllReadyH.cons (o := _) rfl (fun K hK => ?_) (AllReadyH.cons (o := _) rfl (fun K hK => ?_) AllReadyH.nil))
        · skip -- 2
          simp only [rq0, rq1, rq2]
          go_simp
          (go_at_call 35; refine (hTW.out _).mono ?_; rintro e W1 ⟨rfl, hn⟩)
          have hN0 := hbx.size
          replace hbx := bt2 hbx hn
          clear hn hN0
          refine hK.out _ _ ?_ (fun hHeld => ?_)
          · exact ⟨cell_on (hbx) x0, cell_on (hbx) x1, cell_on (hbx) p2, cell_on (hbx) p3⟩
          clear hK K
          try simp only [rq0, rq1, rq2, Act.put, rq3, rq4, rq5]
          refine wpAnyH_ready (rs := [3, 7]) (by kernel_rfl) (by simp) (AllReadyH.cons (o := _) rfl (fun K hK => ?_) (AllReadyH.cons (o := _) rfl (fun K hK => ?_) AllReadyH.nil))
          · skip -- 3
            simp only [rq0, rq1, rq2]
            go_simp
            (go_at_call 25; refine (hI.out _ _ _ _ _ (r4.below hbx) (q4.below hbx) lx lw).mono ?_; rintro e W2 ⟨An, cn, Bn, dn, rfl, hn, Ln, Mn, Xn, Yn, hAn, hBn⟩)
            have hN0 := hbx.size
            replace hbx := bt2 hbx hn
            replace Xn := Xn.toB hN0
            replace Yn := Yn.toB hN0
            replace hAn : ∀ z, An.map (·.block) = some z → w4.heap.size ≤ z ∧ z < W2.heap.size := fun z hz => ⟨Nat.le_trans hN0 (hAn z hz).1, (hAn z hz).2⟩
            replace hBn : ∀ z, Bn.map (·.block) = some z → w4.heap.size ≤ z ∧ z < W2.heap.size := fun z hz => ⟨Nat.le_trans hN0 (hBn z hz).1, (hBn z hz).2⟩
            clear hn hN0
            refine hK.out _ _ ?_ (fun hHeld => ?_)
            · exact ⟨cell_on (hbx) x0, cell_on (hbx) x1, cell_on (hbx) p2, cell_on (hbx) p3⟩
            clear hK K
            try simp only [rq0, rq1, rq2, Act.put, rq3, rq4, rq5]
            refine wpAnyH_take (i := 4) (oi := _) (v := ?_) rfl (by kernel_rfl) (by kernel_rfl) (by kernel_rfl) (fun _ _ _ h => h) (Or.inl ⟨by rfl, ?_⟩) (by assumption) ?_
            rotate_left
            · (intro wS hSw; (try dsimp only at hSw); (try go_split_ands); (simp only [List.getElem_toArray, List.getElem_cons_succ, List.getElem_cons_zero]); go_simp <;> (with_reducible rfl))
            try simp only [List.getElem_toArray, List.getElem_cons_succ, List.getElem_cons_zero, Act.put, List.setIfInBounds_toArray, List.set_cons_zero, List.set_cons_succ]
            refine wpAnyH_take (i := 5) (oi := _) (v := ?_) rfl (by kernel_rfl) (by kernel_rfl) (by kernel_rfl) (fun _ _ _ h => h) (Or.inl ⟨by rfl, ?_⟩) (by assumption) ?_
            rotate_left
            · (intro wS hSw; (try dsimp only at hSw); (try go_split_ands); (simp only [List.getElem_toArray, List.getElem_cons_succ, List.getElem_cons_zero]); go_simp <;> (with_reducible rfl))
            try simp only [List.getElem_toArray, List.getElem_cons_succ, List.getElem_cons_zero, Act.put, List.setIfInBounds_toArray, List.set_cons_zero, List.set_cons_succ]
            refine wpAnyH_take (i := 6) (oi := _) (v := ?_) rfl (by kernel_rfl) (by kernel_rfl) (by kernel_rfl) (fun _ _ _ h => h) (Or.inl ⟨by rfl, ?_⟩) (by assumption) ?_
            rotate_left
            · (intro wS hSw; (try dsimp only at hSw); (try go_split_ands); (simp only [List.getElem_toArray, List.getElem_cons_succ, List.getElem_cons_zero]); go_simp <;> (with_reducible rfl))
            try simp only [List.getElem_toArray, List.getElem_cons_succ, List.getElem_cons_zero, Act.put, List.setIfInBounds_toArray, List.set_cons_zero, List.set_cons_succ]
            refine wpAnyH_ready (rs := [7]) (by kernel_rfl) (by simp) (AllReadyH.cons (o := _) rfl (fun K hK => ?_) AllReadyH.nil)
            simp only [rq0, rq1, rq2]
            go_simp
            have hoK : w4.heap.size ≤ W2.heap.size := hbx.size
            have hn : Below W2.heap.size W2 (W2.alloc (.cells #[.slice none 0 0, .slice none 0 0] 30)) := (Below.refl _ _).alloc (Nat.le_refl _) _
            replace Ln := Ln.below hn
            replace Mn := Mn.below hn
            replace Xn := Xn.below hn
            replace Yn := Yn.below hn
            have out := Blk.new W2 30 #[.slice none 0 0, .slice none 0 0]
            have hbn := bt2 hbx hn
            refine hK.out _ _ ?_ (fun hHeld => ?_)
            · exact ⟨cell_on (hbn) x0, cell_on (hbn) x1, cell_on (hbn) p2, cell_on (hbn) p3⟩
            clear hK K
            try simp only [rq0, rq1, rq2, Act.put, rq3, rq4, rq5]
            replace hbx := hbn
            have hsz3 : W2.heap.size ≤ (W2.alloc (.cells #[.slice none 0 0, .slice none 0 0] 30)).heap.size := by simp
            clear hbn hn
            generalize W2.alloc (.cells #[.slice none 0 0, .slice none 0 0] 30) = W3 at hbx hsz3 Ln Mn Xn Yn out ⊢
            refine wpAnyH_ready (rs := [8]) (by kernel_rfl) (by simp) (AllReadyH.cons (o := _) rfl (fun K hK => ?_) AllReadyH.nil)
            have r0 : W3.cell? ⟨W2.heap.size, 0, none⟩ = some (.slice none 0 0) := out.cell 0
            have r1 : W3.cell? ⟨W2.heap.size, 1, none⟩ = some (.slice none 0 0) := out.cell 1
            have s0 : W3.frozen? ⟨W2.heap.size, 0, none⟩ = false := out.free 0
            have s1 : W3.frozen? ⟨W2.heap.size, 1, none⟩ = false := out.free 1
            simp only [rq0, rq1, rq2]
            go_simp
            refine hK.out _ _ ?_ (fun hHeld => ?_)
            · exact ⟨cell_on ((hbx.setCell hoK _).setCell hoK _) x0, cell_on ((hbx.setCell hoK _).setCell hoK _) x1, cell_on ((hbx.setCell hoK _).setCell hoK _) p2, cell_on ((hbx.setCell hoK _).setCell hoK _) p3⟩
            clear hK K
            try simp only [rq0, rq1, rq2, Act.put, rq3, rq4, rq5]
            clear r0 r1 s0 s1
            refine wpAnyH_take (i := 9) (oi := _) (v := ?_) rfl (by kernel_rfl) (by kernel_rfl) (by kernel_rfl) (fun _ _ _ h => h) (Or.inl ⟨by rfl, ?_⟩) (by assumption) ?_
            rotate_left
            · (intro wS hSw; (try dsimp only at hSw); (try go_split_ands); (simp only [List.getElem_toArray, List.getElem_cons_succ, List.getElem_cons_zero]); go_simp <;> (with_reducible rfl))
            try simp only [List.getElem_toArray, List.getElem_cons_succ, List.getElem_cons_zero, Act.put, List.setIfInBounds_toArray, List.set_cons_zero, List.set_cons_succ]
            refine wpAnyH_done (by kernel_rfl) ?_ _
            refine NoPanic.normal ?_
            clear hHeld
            have kF : Blk ((W3.setCell ⟨W2.heap.size, 0, none⟩ (.slice An E.length cn)).setCell ⟨W2.heap.size, 1, none⟩ (.slice Bn F.length dn)) (W2.heap.size) 30 #[.slice An E.length cn, .slice Bn F.length dn] := by simpa using (out.set 0 (.slice An E.length cn)).set 1 (.slice Bn F.length dn)
            have gF := grown_set (grown_set (g := W2.heap.size) (World.grownBy.refl W3 _) (p := ⟨W2.heap.size, 0, none⟩) (.inl rfl) (.slice An E.length cn)) (p := ⟨W2.heap.size, 1, none⟩) (.inl rfl) (.slice Bn F.length dn)
            go_wp2_with fail
            go_meet
            exact ⟨W2.heap.size, An, Bn, cn, dn, rfl, rfl, hoK, kF, (hbx.setCell hoK _).setCell hoK _, rl_out Xn Ln out gF, rl_out Yn Mn out gF, rowx_out Xn out gF, rowx_out Yn out gF, fun z hz => ⟨(hAn z hz).1, by have := (hAn z hz).2; simp [World.setCell]; omega⟩, fun z hz => ⟨(hBn z hz).1, by have := (hBn z hz).2; simp [World.setCell]; omega⟩⟩
          · skip -- 7
            simp only [rq0, rq1, rq2]
            go_simp
            have hoK : w4.heap.size ≤ W1.heap.size := hbx.size
            have hn : Below W1.heap.size W1 (W1.alloc (.cells #[.slice none 0 0, .slice none 0 0] 30)) := (Below.refl _ _).alloc (Nat.le_refl _) _
            have out := Blk.new W1 30 #[.slice none 0 0, .slice none 0 0]
            have hbn := bt2 hbx hn
            refine hK.out _ _ ?_ (fun hHeld => ?_)
            · exact ⟨cell_on (hbn) x0, cell_on (hbn) x1, cell_on (hbn) p2, cell_on (hbn) p3⟩
            clear hK K
            try simp only [rq0, rq1, rq2, Act.put, rq3, rq4, rq5]
            replace hbx := hbn
            have hsz2 : W1.heap.size ≤ (W1.alloc (.cells #[.slice none 0 0, .slice none 0 0] 30)).heap.size := by simp
            clear hbn hn
            generalize W1.alloc (.cells #[.slice none 0 0, .slice none 0 0] 30) = W2 at hbx hsz2 out ⊢
            refine wpAnyH_ready (rs := [3]) (by kernel_rfl) (by simp) (AllReadyH.cons (o := _) rfl (fun K hK => ?_) AllReadyH.nil)
            simp only [rq0, rq1, rq2]
            go_simp
            (go_at_call 25; refine (hI.out _ _ _ _ _ (r4.below hbx) (q4.below hbx) lx lw).mono ?_; rintro e W3 ⟨An, cn, Bn, dn, rfl, hn, Ln, Mn, Xn, Yn, hAn, hBn⟩)
            replace out := out.below hn
            have hN0 := hbx.size
            replace hbx := bt2 hbx hn
            replace Xn := Xn.toB hN0
            replace Yn := Yn.toB hN0
            replace hAn : ∀ z, An.map (·.block) = some z → w4.heap.size ≤ z ∧ z < W3.heap.size := fun z hz => ⟨Nat.le_trans hN0 (hAn z hz).1, (hAn z hz).2⟩
            replace hBn : ∀ z, Bn.map (·.block) = some z → w4.heap.size ≤ z ∧ z < W3.heap.size := fun z hz => ⟨Nat.le_trans hN0 (hBn z hz).1, (hBn z hz).2⟩
            clear hn hN0
            refine hK.out _ _ ?_ (fun hHeld => ?_)
            · exact ⟨cell_on (hbx) x0, cell_on (hbx) x1, cell_on (hbx) p2, cell_on (hbx) p3⟩
            clear hK K
            try simp only [rq0, rq1, rq2, Act.put, rq3, rq4, rq5]
            refine wpAnyH_take (i := 4) (oi := _) (v := ?_) rfl (by kernel_rfl) (by kernel_rfl) (by kernel_rfl) (fun _ _ _ h => h) (Or.inl ⟨by rfl, ?_⟩) (by assumption) ?_
            rotate_left
            · (intro wS hSw; (try dsimp only at hSw); (try go_split_ands); (simp only [List.getElem_toArray, List.getElem_cons_succ, List.getElem_cons_zero]); go_simp <;> (with_reducible rfl))
            try simp only [List.getElem_toArray, List.getElem_cons_succ, List.getElem_cons_zero, Act.put, List.setIfInBounds_toArray, List.set_cons_zero, List.set_cons_succ]
            refine wpAnyH_take (i := 5) (oi := _) (v := ?_) rfl (by kernel_rfl) (by kernel_rfl) (by kernel_rfl) (fun _ _ _ h => h) (Or.inl ⟨by rfl, ?_⟩) (by assumption) ?_
            rotate_left
            · (intro wS hSw; (try dsimp only at hSw); (try go_split_ands); (simp only [List.getElem_toArray, List.getElem_cons_succ, List.getElem_cons_zero]); go_simp <;> (with_reducible rfl))
            try simp only [List.getElem_toArray, List.getElem_cons_succ, List.getElem_cons_zero, Act.put, List.setIfInBounds_toArray, List.set_cons_zero, List.set_cons_succ]
            refine wpAnyH_take (i := 6) (oi := _) (v := ?_) rfl (by kernel_rfl) (by kernel_rfl) (by kernel_rfl) (fun _ _ _ h => h) (Or.inl ⟨by rfl, ?_⟩) (by assumption) ?_
            rotate_left
            · (intro wS hSw; (try dsimp only at hSw); (try go_split_ands); (simp only [List.getElem_toArray, List.getElem_cons_succ, List.getElem_cons_zero]); go_simp <;> (with_reducible rfl))
            try simp only [List.getElem_toArray, List.getElem_cons_succ, List.getElem_cons_zero, Act.put, List.setIfInBounds_toArray, List.set_cons_zero, List.set_cons_succ]
            refine wpAnyH_ready (rs := [8]) (by kernel_rfl) (by simp) (AllReadyH.cons (o := _) rfl (fun K hK => ?_) AllReadyH.nil)
            have r0 : W3.cell? ⟨W1.heap.size, 0, none⟩ = some (.slice none 0 0) := out.cell 0
            have r1 : W3.cell? ⟨W1.heap.size, 1, none⟩ = some (.slice none 0 0) := out.cell 1
            have s0 : W3.frozen? ⟨W1.heap.size, 0, none⟩ = false := out.free 0
            have s1 : W3.frozen? ⟨W1.heap.size, 1, none⟩ = false := out.free 1
            simp only [rq0, rq1, rq2]
            go_simp
            refine hK.out _ _ ?_ (fun hHeld => ?_)
            · exact ⟨cell_on ((hbx.setCell hoK _).setCell hoK _) x0, cell_on ((hbx.setCell hoK _).setCell hoK _) x1, cell_on ((hbx.setCell hoK _).setCell hoK _) p2, cell_on ((hbx.setCell hoK _).setCell hoK _) p3⟩
            clear hK K
            try simp only [rq0, rq1, rq2, Act.put, rq3, rq4, rq5]
            clear r0 r1 s0 s1
            refine wpAnyH_take (i := 9) (oi := _) (v := ?_) rfl (by kernel_rfl) (by kernel_rfl) (by kernel_rfl) (fun _ _ _ h => h) (Or.inl ⟨by rfl, ?_⟩) (by assumption) ?_
            rotate_left
            · (intro wS hSw; (try dsimp only at hSw); (try go_split_ands); (simp only [List.getElem_toArray, List.getElem_cons_succ, List.getElem_cons_zero]); go_simp <;> (with_reducible rfl))
            try simp only [List.getElem_toArray, List.getElem_cons_succ, List.getElem_cons_zero, Act.put, List.setIfInBounds_toArray, List.set_cons_zero, List.set_cons_succ]
            refine wpAnyH_done (by kernel_rfl) ?_ _
            refine NoPanic.normal ?_
            clear hHeld
            have kF : Blk ((W3.setCell ⟨W1.heap.size, 0, none⟩ (.slice An E.length cn)).setCell ⟨W1.heap.size, 1, none⟩ (.slice Bn F.length dn)) (W1.heap.size) 30 #[.slice An E.length cn, .slice Bn F.length dn] := by simpa using (out.set 0 (.slice An E.length cn)).set 1 (.slice Bn F.length dn)
            have gF := grown_set (grown_set (g := W1.heap.size) (World.grownBy.refl W3 _) (p := ⟨W1.heap.size, 0, none⟩) (.inl rfl) (.slice An E.length cn)) (p := ⟨W1.heap.size, 1, none⟩) (.inl rfl) (.slice Bn F.length dn)
            go_wp2_with fail
            go_meet
            exact ⟨W1.heap.size, An, Bn, cn, dn, rfl, rfl, hoK, kF, (hbx.setCell hoK _).setCell hoK _, rl_out Xn Ln out gF, rl_out Yn Mn out gF, rowx_out Xn out gF, rowx_out Yn out gF, fun z hz => ⟨(hAn z hz).1, by have := (hAn z hz).2; simp [World.setCell]; omega⟩, fun z hz => ⟨(hBn z hz).1, by have := (hBn z hz).2; simp [World.setCell]; omega⟩⟩
        · skip -- 7
          simp only [rq0, rq1, rq2]
          go_simp
          have hoK : w4.heap.size ≤ W0.heap.size := hbx.size
          have hn : Below W0.heap.size W0 (W0.alloc (.cells #[.slice none 0 0, .slice none 0 0] 30)) := (Below.refl _ _).alloc (Nat.le_refl _) _
          have out := Blk.new W0 30 #[.slice none 0 0, .slice none 0 0]
          have hbn := bt2 hbx hn
          refine hK.out _ _ ?_ (fun hHeld => ?_)
          · exact ⟨cell_on (hbn) x0, cell_on (hbn) x1, cell_on (hbn) p2, cell_on (hbn) p3⟩
          clear hK K
          try simp only [rq0, rq1, rq2, Act.put, rq3, rq4, rq5]
          replace hbx := hbn
          have hsz1 : W0.heap.size ≤ (W0.alloc (.cells #[.slice none 0 0, .slice none 0 0] 30)).heap.size := by simp
          clear hbn hn
          generalize W0.alloc (.cells #[.slice none 0 0, .slice none 0 0] 30) = W1 at hbx hsz1 out ⊢
          refine wpAnyH_ready (rs := [2]) (by kernel_rfl) (by simp) (AllReadyH.cons (o := _) rfl (fun K hK => ?_) AllReadyH.nil)
          simp only [rq0, rq1, rq2]
          go_simp
          (go_at_call 35; refine (hTW.out _).mono ?_; rintro e W2 ⟨rfl, hn⟩)
          replace out := out.below hn
          have hN0 := hbx.size
          replace hbx := bt2 hbx hn
          clear hn hN0
          refine hK.out _ _ ?_ (fun hHeld => ?_)
          · exact ⟨cell_on (hbx) x0, cell_on (hbx) x1, cell_on (hbx) p2, cell_on (hbx) p3⟩
          clear hK K
          try simp only [rq0, rq1, rq2, Act.put, rq3, rq4, rq5]
          refine wpAnyH_ready (rs := [3]) (by kernel_rfl) (by simp) (AllReadyH.cons (o := _) rfl (fun K hK => ?_) AllReadyH.nil)
          simp only [rq0, rq1, rq2]
          go_simp
          (go_at_call 25; refine (hI.out _ _ _ _ _ (r4.below hbx) (q4.below hbx) lx lw).mono ?_; rintro e W3 ⟨An, cn, Bn, dn, rfl, hn, Ln, Mn, Xn, Yn, hAn, hBn⟩)
          replace out := out.below hn
          have hN0 := hbx.size
          replace hbx := bt2 hbx hn
          replace Xn := Xn.toB hN0
          replace Yn := Yn.toB hN0
          replace hAn : ∀ z, An.map (·.block) = some z → w4.heap.size ≤ z ∧ z < W3.heap.size := fun z hz => ⟨Nat.le_trans hN0 (hAn z hz).1, (hAn z hz).2⟩
          replace hBn : ∀ z, Bn.map (·.block) = some z → w4.heap.size ≤ z ∧ z < W3.heap.size := fun z hz => ⟨Nat.le_trans hN0 (hBn z hz).1, (hBn z hz).2⟩
          clear hn hN0
          refine hK.out _ _ ?_ (fun hHeld => ?_)
          · exact ⟨cell_on (hbx) x0, cell_on (hbx) x1, cell_on (hbx) p2, cell_on (hbx) p3⟩
          clear hK K
          try simp only [rq0, rq1, rq2, Act.put, rq3, rq4, rq5]
          refine wpAnyH_take (i := 4) (oi := _) (v := ?_) rfl (by kernel_rfl) (by kernel_rfl) (by kernel_rfl) (fun _ _ _ h => h) (Or.inl ⟨by rfl, ?_⟩) (by assumption) ?_
          rotate_left
          · (intro wS hSw; (try dsimp only at hSw); (try go_split_ands); (simp only [List.getElem_toArray, List.getElem_cons_succ, List.getElem_cons_zero]); go_simp <;> (with_reducible rfl))
          try simp only [List.getElem_toArray, List.getElem_cons_succ, List.getElem_cons_zero, Act.put, List.setIfInBounds_toArray, List.set_cons_zero, List.set_cons_succ]
          refine wpAnyH_take (i := 5) (oi := _) (v := ?_) rfl (by kernel_rfl) (by kernel_rfl) (by kernel_rfl) (fun _ _ _ h => h) (Or.inl ⟨by rfl, ?_⟩) (by assumption) ?_
          rotate_left
          · (intro wS hSw; (try dsimp only at hSw); (try go_split_ands); (simp only [List.getElem_toArray, List.getElem_cons_succ, List.getElem_cons_zero]); go_simp <;> (with_reducible rfl))
          try simp only [List.getElem_toArray, List.getElem_cons_succ, List.getElem_cons_zero, Act.put, List.setIfInBounds_toArray, List.set_cons_zero, List.set_cons_succ]
          refine wpAnyH_take (i := 6) (oi := _) (v := ?_) rfl (by kernel_rfl) (by kernel_rfl) (by kernel_rfl) (fun _ _ _ h => h) (Or.inl ⟨by rfl, ?_⟩) (by assumption) ?_
          rotate_left
          · (intro wS hSw; (try dsimp only at hSw); (try go_split_ands); (simp only [List.getElem_toArray, List.getElem_cons_succ, List.getElem_cons_zero]); go_simp <;> (with_reducible rfl))
          try simp only [List.getElem_toArray, List.getElem_cons_succ, List.getElem_cons_zero, Act.put, List.setIfInBounds_toArray, List.set_cons_zero, List.set_cons_succ]
          refine wpAnyH_ready (rs := [8]) (by kernel_rfl) (by simp) (AllReadyH.cons (o := _) rfl (fun K hK => ?_) AllReadyH.nil)
          have r0 : W3.cell? ⟨W0.heap.size, 0, none⟩ = some (.slice none 0 0) := out.cell 0
          have r1 : W3.cell? ⟨W0.heap.size, 1, none⟩ = some (.slice none 0 0) := out.cell 1
          have s0 : W3.frozen? ⟨W0.heap.size, 0, none⟩ = false := out.free 0
          have s1 : W3.frozen? ⟨W0.heap.size, 1, none⟩ = false := out.free 1
          simp only [rq0, rq1, rq2]
          go_simp
          refine hK.out _ _ ?_ (fun hHeld => ?_)
          · exact ⟨cell_on ((hbx.setCell hoK _).setCell hoK _) x0, cell_on ((hbx.setCell hoK _).setCell hoK _) x1, cell_on ((hbx.setCell hoK _).setCell hoK _) p2, cell_on ((hbx.setCell hoK _).setCell hoK _) p3⟩
          clear hK K
          try simp only [rq0, rq1, rq2, Act.put, rq3, rq4, rq5]
          clear r0 r1 s0 s1
          refine wpAnyH_take (i := 9) (oi := _) (v := ?_) rfl (by kernel_rfl) (by kernel_rfl) (by kernel_rfl) (fun _ _ _ h => h) (Or.inl ⟨by rfl, ?_⟩) (by assumption) ?_
          rotate_left
          · (intro wS hSw; (try dsimp only at hSw); (try go_split_ands); (simp only [List.getElem_toArray, List.getElem_cons_succ, List.getElem_cons_zero]); go_simp <;> (with_reducible rfl))
          try simp only [List.getElem_toArray, List.getElem_cons_succ, List.getElem_cons_zero, Act.put, List.setIfInBounds_toArray, List.set_cons_zero, List.set_cons_succ]
          refine wpAnyH_done (by kernel_rfl) ?_ _
          refine NoPanic.normal ?_
          clear hHeld
          have kF : Blk ((W3.setCell ⟨W0.heap.size, 0, none⟩ (.slice An E.length cn)).setCell ⟨W0.heap.size, 1, none⟩ (.slice Bn F.length dn)) (W0.heap.size) 30 #[.slice An E.length cn, .slice Bn F.length dn] := by simpa using (out.set 0 (.slice An E.length cn)).set 1 (.slice Bn F.length dn)
          have gF := grown_set (grown_set (g := W0.heap.size) (World.grownBy.refl W3 _) (p := ⟨W0.heap.size, 0, none⟩) (.inl rfl) (.slice An E.length cn)) (p := ⟨W0.heap.size, 1, none⟩) (.inl rfl) (.slice Bn F.length dn)
          go_wp2_with fail
          go_meet
          exact ⟨W0.heap.size, An, Bn, cn, dn, rfl, rfl, hoK, kF, (hbx.setCell hoK _).setCell hoK _, rl_out Xn Ln out gF, rl_out Yn Mn out gF, rowx_out Xn out gF, rowx_out Yn out gF, fun z hz => ⟨(hAn z hz).1, by have := (hAn z hz).2; simp [World.setCell]; omega⟩, fun z hz => ⟨(hBn z hz).1, by have := (hBn z hz).2; simp [World.setCell]; omega⟩⟩
      case rest =>
        obtain ⟨K9, A9, B9, c9, d9, rfl, rfl, hK9, k9, hn, L9, M9, X9, Y9, hA9, hB9⟩ := hcut
        obtain ⟨w5, rfl⟩ : ∃ w5, w5 = wc := ⟨_, rfl⟩
        have hz5 := hn.size
        have hz4 := hz4'.out
        replace hr := hr.below hn
        replace hq := hq.below hn
        replace kB := kB.below hn
        replace kX := kX.below hn
        replace k6 := k6.below hn
        replace L6 := L6.below hn
        replace M6 := M6.below hn
        replace r4 := r4.below hn
        replace q4 := q4.below hn
        replace F4 := F4.below hn
        replace G4 := G4.below hn
        replace k8 := k8.below hn
        replace p0 := cell_on hn p0
        replace p1 := cell_on hn p1
        replace p2 := cell_on hn p2
        replace p3 := cell_on hn p3
        replace x0 := cell_on hn x0
        replace x1 := cell_on hn x1
        replace hbb := bt2 hbb hn
        clear hn hz4'
        have hk9l := k9.lt
        have y0 : w5.cell? ⟨K6, 0, none⟩ = some (.slice A6 E.length c6) := k6.cell 0
        have y1 : w5.cell? ⟨K6, 1, none⟩ = some (.slice B6 F.length d6) := k6.cell 1
        have z0 : w5.cell? ⟨K9, 0, none⟩ = some (.slice A9 E.length c9) := k9.cell 0
        have z1 : w5.cell? ⟨K9, 1, none⟩ = some (.slice B9 F.length d9) := k9.cell 1
        go_wp2_with fail
        refine (eqDk _ _ _ _ _ _ _ _ E F _ L9 M9 L6 M6 (by omega) (by omega)).mono ?_
        rintro e w6 ⟨rfl, hn⟩
        have hzw6 := hn.size
        replace hr := hr.below hn
        replace hq := hq.below hn
        replace kB := kB.below hn
        replace kX := kX.below hn
        replace k6 := k6.below hn
        replace L6 := L6.below hn
        replace M6 := M6.below hn
        replace r4 := r4.below hn
        replace q4 := q4.below hn
        replace F4 := F4.below hn
        replace G4 := G4.below hn
        replace k8 := k8.below hn
        replace k9 := k9.below hn
        replace L9 := L9.below hn
        replace M9 := M9.below hn
        replace X9 := X9.below hn
        replace Y9 := Y9.below hn
        replace p0 := cell_on hn p0
        replace p1 := cell_on hn p1
        replace p2 := cell_on hn p2
        replace p3 := cell_on hn p3
        replace x0 := cell_on hn x0
        replace x1 := cell_on hn x1
        replace y0 := cell_on hn y0
        replace y1 := cell_on hn y1
        replace z0 := cell_on hn z0
        replace z1 := cell_on hn z1
        replace hbb := bt2 hbb hn
        clear hn
        go_wp2_with fail
        have hbx : Below w6.heap.size w6 w6.drew := (Below.refl _ _).drew
        refine wp_region_noPanic ?_
        refine wp_region_held_drew (S := (fun w' => w'.cell? ⟨w.heap.size, 0, none⟩ = some (.slice A xs.length c) ∧ w'.cell? ⟨w.heap.size, 1, none⟩ = some (.slice B ws.length d) ∧ w'.cell? ⟨w3.heap.size, 0, none⟩ = some (.slice (some ⟨g4, 0, none⟩) xs.length xs.length) ∧ w'.cell? ⟨w3.heap.size, 1, none⟩ = some (.slice (some ⟨k4, 0, none⟩) ws.length ws.length))) (by kernel_rfl) ?_ (fun hHeld => ?_)
        · exact ⟨cell_on (hbx) p0, cell_on (hbx) p1, cell_on (hbx) x0, cell_on (hbx) x1⟩
        refine wpAnyH_take (i := 0) (oi := _) (v := ?_) rfl (by kernel_rfl) (by kernel_rfl) (by kernel_rfl) (fun _ _ _ h => h) (Or.inl ⟨by rfl, ?_⟩) (by assumption) ?_
        rotate_left
        · (intro wS hSw; (try dsimp only at hSw); (try go_split_ands); (simp only [List.getElem_toArray, List.getElem_cons_succ, List.getElem_cons_zero]); go_simp <;> (with_reducible rfl))
        try simp only [List.getElem_toArray, List.getElem_cons_succ, List.getElem_cons_zero, Act.put, List.setIfInBounds_toArray, List.set_cons_zero, List.set_cons_succ]
        refine wpAnyH_take (i := 1) (oi := _) (v := ?_) rfl (by kernel_rfl) (by kernel_rfl) (by kernel_rfl) (fun _ _ _ h => h) (Or.inl ⟨by rfl, ?_⟩) (by assumption) ?_
        rotate_left
        · (intro wS hSw; (try dsimp only at hSw); (try go_split_ands); (simp only [List.getElem_toArray, List.getElem_cons_succ, List.getElem_cons_zero]); go_simp <;> (with_reducible rfl))
        try simp only [List.getElem_toArray, List.getElem_cons_succ, List.getElem_cons_zero, Act.put, List.setIfInBounds_toArray, List.set_cons_zero, List.set_cons_succ]
        refine wpAnyH_ready (rs := [2]) (by kernel_rfl) (by simp) (AllReadyH.cons (o := _) rfl (fun K hK => ?_) AllReadyH.nil)
        simp only [rq0, rq1, rq2]
        go_simp
        (go_at_call 17; refine (toDk A B c d xs ws _ (hr.below hbx) (hq.below hbx) lx lw).mono ?_; rintro e wq ⟨g7, k7, rfl, r7, q7, hq'⟩; replace hbx := bt2 hbx hq')
        refine hK.out _ _ ?_ (fun hHeld => ?_)
        · exact ⟨cell_on (hbx) p0, cell_on (hbx) p1, cell_on (hbx) x0, cell_on (hbx) x1⟩
        clear hK K hq'
        try simp only [rq0, rq1, rq2, Act.put, rq3, rq4, rq5]
        refine wpAnyH_ready (rs := [3]) (by kernel_rfl) (by simp) (AllReadyH.cons (o := _) rfl (fun K hK => ?_) AllReadyH.nil)
        simp only [rq0, rq1, rq2]
        go_simp
        (go_at_call 19; refine (eqDk _ _ _ _ _ _ _ _ xs ws _ (r4.below hbx) (q4.below hbx) r7 q7 lx lw).mono ?_; rintro e wq ⟨rfl, hq'⟩; replace hbx := bt2 hbx hq')
        refine hK.out _ _ ?_ (fun hHeld => ?_)
        · exact ⟨cell_on (hbx) p0, cell_on (hbx) p1, cell_on (hbx) x0, cell_on (hbx) x1⟩
        clear hK K hq'
        try simp only [rq0, rq1, rq2, Act.put, rq3, rq4, rq5]
        refine wpAnyH_take (i := 4) (oi := _) (v := ?_) rfl (by kernel_rfl) (by kernel_rfl) (by kernel_rfl) (fun _ _ _ h => h) (Or.inl ⟨by rfl, ?_⟩) (by assumption) ?_
        rotate_left
        · (intro wS hSw; (try dsimp only at hSw); (try go_split_ands); (simp only [List.getElem_toArray, List.getElem_cons_succ, List.getElem_cons_zero]); go_simp <;> (with_reducible rfl))
        try simp only [List.getElem_toArray, List.getElem_cons_succ, List.getElem_cons_zero, Act.put, List.setIfInBounds_toArray, List.set_cons_zero, List.set_cons_succ]
        refine wpAnyH_done (by kernel_rfl) ?_ _
        refine NoPanic.normal ?_
        clear hHeld
        obtain ⟨w8, rfl⟩ : ∃ w8, w8 = wq := ⟨_, rfl⟩
        have hzw8 := hbx.size
        replace hr := hr.below hbx
        replace hq := hq.below hbx
        replace kB := kB.below hbx
        replace kX := kX.below hbx
        replace k6 := k6.below hbx
        replace L6 := L6.below hbx
        replace M6 := M6.below hbx
        replace r4 := r4.below hbx
        replace q4 := q4.below hbx
        replace F4 := F4.below hbx
        replace G4 := G4.below hbx
        replace k8 := k8.below hbx
        replace k9 := k9.below hbx
        replace L9 := L9.below hbx
        replace M9 := M9.below hbx
        replace X9 := X9.below hbx
        replace Y9 := Y9.below hbx
        replace p0 := cell_on hbx p0
        replace p1 := cell_on hbx p1
        replace p2 := cell_on hbx p2
        replace p3 := cell_on hbx p3
        replace x0 := cell_on hbx x0
        replace x1 := cell_on hbx x1
        replace y0 := cell_on hbx y0
        replace y1 := cell_on hbx y1
        replace z0 := cell_on hbx z0
        replace z1 := cell_on hbx z1
        replace hbb := bt2 hbb hbx
        clear hbx
        go_wp2_with fail
        refine (markD_any g4 k4 xs.length ws.length _ _ 1 _ _ _ F4 G4 hgk4 lx lw (by omega)).mono ?_
        rintro e w9 ⟨rfl, hk⟩
        have hzw9 := hk.size
        clear r4 q4 F4 G4 p0 p1 p2 p3 x0 x1 y0 y1 z0 z1
        replace hbb := hk.under hbb (by omega) (by omega) hbb.size
        replace hr := hr0.below hbb
        replace hq := hq0.below hbb
        replace kB := hk.blk kB (by omega) (by omega)
        replace kX := hk.blk kX (by omega) (by omega)
        replace k6 := hk.blk k6 (by omega) (by omega)
        replace k8 := hk.blk k8 (by omega) (by omega)
        replace k9 := hk.blk k9 (by omega) (by omega)
        replace L6 := rl_k2 L6 hk (fun z hz => by have := hA6 z hz; omega)
        replace M6 := rl_k2 M6 hk (fun z hz => by have := hB6 z hz; omega)
        replace L9 := rl_k2 L9 hk (fun z hz => by have := hA9 z hz; omega)
        replace M9 := rl_k2 M9 hk (fun z hz => by have := hB9 z hz; omega)
        replace X9 := X9.kept2 hk (by omega) (by omega)
        replace Y9 := Y9.kept2 hk (by omega) (by omega)
        clear hk
        have p0 : w9.cell? ⟨w.heap.size, 0, none⟩ = some (.slice A xs.length c) := kB.cell 0
        have p1 : w9.cell? ⟨w.heap.size, 1, none⟩ = some (.slice B ws.length d) := kB.cell 1
        have p2 : w9.cell? ⟨w.heap.size + 1, 0, none⟩ = some (.int .i64 a) := kX.cell 0
        have p3 : w9.cell? ⟨w.heap.size + 1, 1, none⟩ = some (.int .i64 b) := kX.cell 1
        have y0 : w9.cell? ⟨K6, 0, none⟩ = some (.slice A6 E.length c6) := k6.cell 0
        have y1 : w9.cell? ⟨K6, 1, none⟩ = some (.slice B6 F.length d6) := k6.cell 1
        have z0 : w9.cell? ⟨K9, 0, none⟩ = some (.slice A9 E.length c9) := k9.cell 0
        have z1 : w9.cell? ⟨K9, 1, none⟩ = some (.slice B9 F.length d9) := k9.cell 1
        have hmk : ¬ ((((1 : Nat) : Int) + xs.length + 2 * ws.length) < 0) := by omega
        have hmk' : ¬ ((1 : Int) + xs.length + 2 * ws.length < 0) := by omega
        go_wp2_with fail
        clear hmk hmk'
        refine (eqDk _ _ _ _ _ _ _ _ E F _ L9 M9 L6 M6 (by omega) (by omega)).mono ?_
        rintro e w10 ⟨rfl, hn⟩
        have hzw10 := hn.size
        replace hr := hr.below hn
        replace hq := hq.below hn
        replace kB := kB.below hn
        replace kX := kX.below hn
        replace k6 := k6.below hn
        replace L6 := L6.below hn
        replace M6 := M6.below hn
        replace k8 := k8.below hn
        replace k9 := k9.below hn
        replace L9 := L9.below hn
        replace M9 := M9.below hn
        replace X9 := X9.below hn
        replace Y9 := Y9.below hn
        replace p0 := cell_on hn p0
        replace p1 := cell_on hn p1
        replace p2 := cell_on hn p2
        replace p3 := cell_on hn p3
        replace y0 := cell_on hn y0
        replace y1 := cell_on hn y1
        replace z0 := cell_on hn z0
        replace z1 := cell_on hn z1
        replace hbb := bt2 hbb hn
        clear hn
        go_wp2_with fail
        obtain ⟨g, h, hgh, hwg, hBg, hBh, hgN, hhN, TA, TB, hgz, hhz⟩ := rows_pick X9 Y9 (by omega) (by omega)
        have nB : w.heap.size ≠ g ∧ w.heap.size ≠ h := by omega
        have nX : w.heap.size + 1 ≠ g ∧ w.heap.size + 1 ≠ h := by omega
        have n6 : K6 ≠ g ∧ K6 ≠ h := by omega
        have n8 : w3.heap.size ≠ g ∧ w3.heap.size ≠ h := by omega
        have n9g : K9 ≠ g := by rcases TA with h0 | ⟨_, _, arr, kk, _⟩ <;> first | exact Blk.ne k9 kk (by decide) | (have := hgz h0; have := k9.lt; omega)
        have n9h : K9 ≠ h := by rcases TB with h0 | ⟨_, _, arr, kk, _⟩ <;> first | exact Blk.ne k9 kk (by decide) | (have := hhz h0; have := k9.lt; omega)
        refine (markX A9 B9 c9 d9 E.length F.length 1 g h _ hgh hwg TA TB (by omega) (by omega) (by omega)).mono ?_
        rintro e w11 ⟨rfl, hk, TI, TW⟩
        have hzw11 := hk.size
        clear L9 M9 X9 Y9 hA9 hB9 TA TB p0 p1 p2 p3 y0 y1 z0 z1
        replace hbb := hk.under hbb (by omega) (by omega) hbb.size
        replace hr := hr0.below hbb
        replace hq := hq0.below hbb
        replace kB := hk.blk kB nB.1 nB.2
        replace kX := hk.blk kX nX.1 nX.2
        replace k6 := hk.blk k6 n6.1 n6.2
        replace k9 := hk.blk k9 n9g n9h
        replace L6 := rl_k2 L6 hk (fun z hz => by have := hA6 z hz; omega)
        replace M6 := rl_k2 M6 hk (fun z hz => by have := hB6 z hz; omega)
        clear hk k8 nB nX n6 n8 n9g n9h hgN hhN hgz hhz
        have p0 : w11.cell? ⟨w.heap.size, 0, none⟩ = some (.slice A xs.length c) := kB.cell 0
        have p1 : w11.cell? ⟨w.heap.size, 1, none⟩ = some (.slice B ws.length d) := kB.cell 1
        have p2 : w11.cell? ⟨w.heap.size + 1, 0, none⟩ = some (.int .i64 a) := kX.cell 0
        have p3 : w11.cell? ⟨w.heap.size + 1, 1, none⟩ = some (.int .i64 b) := kX.cell 1
        have y0 : w11.cell? ⟨K6, 0, none⟩ = some (.slice A6 E.length c6) := k6.cell 0
        have y1 : w11.cell? ⟨K6, 1, none⟩ = some (.slice B6 F.length d6) := k6.cell 1
        have z0 : w11.cell? ⟨K9, 0, none⟩ = some (.slice A9 E.length c9) := k9.cell 0
        have z1 : w11.cell? ⟨K9, 1, none⟩ = some (.slice B9 F.length d9) := k9.cell 1
        go_wp2_with fail
        have hm1 : ¬ ((((1 : Nat) : Int) + E.length + 2 * F.length) < 0) := by omega
        have hm2 : ¬ ((1 : Int) + E.length + 2 * F.length < 0) := by omega
        have hm3 : ((1 : Int) + E.length + 2 * F.length != 1 + E.length + 2 * F.length) = false := by simp
        refine (heldX A9 B9 c9 d9 E.length F.length 1 g h _ TI TW (by omega) (by omega) (by omega)).mono ?_
        rintro e w12 ⟨rfl, hn⟩
        have hzw12 := hn.size
        replace hr := hr.below hn
        replace hq := hq.below hn
        replace kB := kB.below hn
        replace kX := kX.below hn
        replace k6 := k6.below hn
        replace L6 := L6.below hn
        replace M6 := M6.below hn
        replace k9 := k9.below hn
        replace TI := TI.below hn
        replace TW := TW.below hn
        replace p0 := cell_on hn p0
        replace p1 := cell_on hn p1
        replace p2 := cell_on hn p2
        replace p3 := cell_on hn p3
        replace y0 := cell_on hn y0
        replace y1 := cell_on hn y1
        replace z0 := cell_on hn z0
        replace z1 := cell_on hn z1
        replace hbb := bt2 hbb hn
        clear hn
        go_wp2_with fail
        go_cut [14, 15] (fun s14 s15 wx => ∃ (K : Nat) (An Bn : Option Addr) (cn dn : Nat), s14 = .pointer (some ⟨K, 0, none⟩) ∧ s15 = .bool ok ∧ w12.heap.size ≤ K ∧ Blk wx K 30 #[.slice An E.length cn, .slice Bn F.length dn] ∧ Below w12.heap.size w12 wx ∧ Rl encD 1 wx An E ∧ Rl encW 2 wx Bn F ∧ RowX 3 1 wx w12.heap.size wx.heap.size An cn E.length ∧ RowX 41 2 wx w12.heap.size wx.heap.size Bn dn F.length ∧ (∀ z, An.map (·.block) = some z → w12.heap.size ≤ z ∧ z < wx.heap.size) ∧ (∀ z, Bn.map (·.block) = some z → w12.heap.size ≤ z ∧ z < wx.heap.size))
        case first =>
          have hbx : Below w12.heap.size w12 w12.drew := (Below.refl _ _).drew
          refine wp_region_noPanic ?_
          refine wp_region_held_drew (S := (fun w' => w'.cell? ⟨w.heap.size, 0, none⟩ = some (.slice A xs.length c) ∧ w'.cell? ⟨w.heap.size, 1, none⟩ = some (.slice B ws.length d) ∧ w'.cell? ⟨w.heap.size + 1, 0, none⟩ = some (.int .i64 a) ∧ w'.cell? ⟨w.heap.size + 1, 1, none⟩ = some (.int .i64 b))) (by kernel_rfl) ?_ ?_
          · exact ⟨cell_on (hbx) p0, cell_on (hbx) p1, cell_on (hbx) p2, cell_on (hbx) p3⟩
          generalize w12.drew = W0 at hbx ⊢
          intro hHeld
          refine wpAnyH_take (i := 0) (oi := _) (v := ?_) rfl (by kernel_rfl) (by kernel_rfl) (by kernel_rfl) (fun _ _ _ h => h) (Or.inl ⟨by rfl, ?_⟩) (by assumption) ?_
          rotate_left
          · (intro wS hSw; (try dsimp only at hSw); (try go_split_ands); (simp only [List.getElem_toArray, List.getElem_cons_succ, List.getElem_cons_zero]); go_simp <;> (with_reducible rfl))
          try simp only [List.getElem_toArray, List.getElem_cons_succ, List.getElem_cons_zero, Act.put, List.setIfInBounds_toArray, List.set_cons_zero, List.set_cons_succ]
          refine wpAnyH_take (i := 2) (oi := _) (v := ?_) rfl (by kernel_rfl) (by kernel_rfl) (by kernel_rfl) (fun _ _ _ h => h) (Or.inl ⟨by rfl, ?_⟩) (by assumption) ?_
          rotate_left
          · (intro wS hSw; (try dsimp only at hSw); (try go_split_ands); (simp only [List.getElem_toArray, List.getElem_cons_succ, List.getElem_cons_zero]); go_simp <;> (with_reducible rfl))
          try simp only [List.getElem_toArray, List.getElem_cons_succ, List.getElem_cons_zero, Act.put, List.setIfInBounds_toArray, List.set_cons_zero, List.set_cons_succ]
          refine wpAnyH_ready (rs := [1, 8]) (by kernel_rfl) (by simp) (AllReadyH.cons (o := _) rfl (fun K hK => ?_) (AllReadyH.cons (o := _) rfl (fun K hK => ?_) AllReadyH.nil))
          · skip -- 1
            simp only [rq0, rq1, rq2]
            go_simp
            (go_at_call 17; refine (toDk A B c d xs ws _ (hr.below hbx) (hq.below hbx) lx lw).mono ?_; rintro e W1 ⟨g2, k2, rfl, r2, q2, hn⟩)
            have hN0 := hbx.size
            replace hbx := bt2 hbx hn
            clear hn hN0
            refine hK.out _ _ ?_ (fun hHeld => ?_)
            · exact ⟨cell_on (hbx) p0, cell_on (hbx) p1, cell_on (hbx) p2, cell_on (hbx) p3⟩
            clear hK K
            try simp only [rq0, rq1, rq2, Act.put, rq3, rq4, rq5]
            refine wpAnyH_ready (rs := [3, 8]) (by kernel_rfl) (by simp) (AllReadyH.cons (o := _) rfl (fun K hK => ?_) (AllReadyH.cons (o := _) rfl (fun K hK => ?_) AllReadyH.nil))
            · skip -- 3
              simp only [rq0, rq1, rq2]
              go_simp
              (go_at_call 35; refine (hTW.out _).mono ?_; rintro e W2 ⟨rfl, hn⟩)
              replace r2 := r2.below hn
              replace q2 := q2.below hn
              have hN0 := hbx.size
              replace hbx := bt2 hbx hn
              clear hn hN0
              refine hK.out _ _ ?_ (fun hHeld => ?_)
              · exact ⟨cell_on (hbx) p0, cell_on (hbx) p1, cell_on (hbx) p2, cell_on (hbx) p3⟩
              clear hK K
              try simp only [rq0, rq1, rq2, Act.put, rq3, rq4, rq5]
              refine wpAnyH_ready (rs := [4, 8]) (by kernel_rfl) (by simp) (AllReadyH.cons (o := _) rfl (fun K hK => ?_) (AllReadyH.cons (o := _) rfl (fun K hK => ?_) AllReadyH.nil))
              · skip -- 4
                simp only [rq0, rq1, rq2]
                go_simp
                (go_at_call 25; refine (hI.out _ _ _ _ _ r2 q2 lx lw).mono ?_; rintro e W3 ⟨An, cn, Bn, dn, rfl, hn, Ln, Mn, Xn, Yn, hAn, hBn⟩)
                replace r2 := r2.below hn
                replace q2 := q2.below hn
                have hN0 := hbx.size
                replace hbx := bt2 hbx hn
                replace Xn := Xn.toB hN0
                replace Yn := Yn.toB hN0
                replace hAn : ∀ z, An.map (·.block) = some z → w12.heap.size ≤ z ∧ z < W3.heap.size := fun z hz => ⟨Nat.le_trans hN0 (hAn z hz).1, (hAn z hz).2⟩
                replace hBn : ∀ z, Bn.map (·.block) = some z → w12.heap.size ≤ z ∧ z < W3.heap.size := fun z hz => ⟨Nat.le_trans hN0 (hBn z hz).1, (hBn z hz).2⟩
                clear hn hN0
                refine hK.out _ _ ?_ (fun hHeld => ?_)
                · exact ⟨cell_on (hbx) p0, cell_on (hbx) p1, cell_on (hbx) p2, cell_on (hbx) p3⟩
                clear hK K
                try simp only [rq0, rq1, rq2, Act.put, rq3, rq4, rq5]
                refine wpAnyH_take (i := 5) (oi := _) (v := ?_) rfl (by kernel_rfl) (by kernel_rfl) (by kernel_rfl) (fun _ _ _ h => h) (Or.inl ⟨by rfl, ?_⟩) (by assumption) ?_
                rotate_left
                · (intro wS hSw; (try dsimp only at hSw); (try go_split_ands); (simp only [List.getElem_toArray, List.getElem_cons_succ, List.getElem_cons_zero]); go_simp <;> (with_reducible rfl))
                try simp only [List.getElem_toArray, List.getElem_cons_succ, List.getElem_cons_zero, Act.put, List.setIfInBounds_toArray, List.set_cons_zero, List.set_cons_succ]
                refine wpAnyH_take (i := 6) (oi := _) (v := ?_) rfl (by kernel_rfl) (by kernel_rfl) (by kernel_rfl) (fun _ _ _ h => h) (Or.inl ⟨by rfl, ?_⟩) (by assumption) ?_
                rotate_left
                · (intro wS hSw; (try dsimp only at hSw); (try go_split_ands); (simp only [List.getElem_toArray, List.getElem_cons_succ, List.getElem_cons_zero]); go_simp <;> (with_reducible rfl))
                try simp only [List.getElem_toArray, List.getElem_cons_succ, List.getElem_cons_zero, Act.put, List.setIfInBounds_toArray, List.set_cons_zero, List.set_cons_succ]
                refine wpAnyH_take (i := 7) (oi := _) (v := ?_) rfl (by kernel_rfl) (by kernel_rfl) (by kernel_rfl) (fun _ _ _ h => h) (Or.inl ⟨by rfl, ?_⟩) (by assumption) ?_
                rotate_left
                · (intro wS hSw; (try dsimp only at hSw); (try go_split_ands); (simp only [List.getElem_toArray, List.getElem_cons_succ, List.getElem_cons_zero]); go_simp <;> (with_reducible rfl))
                try simp only [List.getElem_toArray, List.getElem_cons_succ, List.getElem_cons_zero, Act.put, List.setIfInBounds_toArray, List.set_cons_zero, List.set_cons_succ]
                refine wpAnyH_ready (rs := [8]) (by kernel_rfl) (by simp) (AllReadyH.cons (o := _) rfl (fun K hK => ?_) AllReadyH.nil)
                simp only [rq0, rq1, rq2]
                go_simp
                have hoK : w12.heap.size ≤ W3.heap.size := hbx.size
                have hn : Below W3.heap.size W3 (W3.alloc (.cells #[.slice none 0 0, .slice none 0 0] 30)) := (Below.refl _ _).alloc (Nat.le_refl _) _
                replace r2 := r2.below hn
                replace q2 := q2.below hn
                replace Ln := Ln.below hn
                replace Mn := Mn.below hn
                replace Xn := Xn.below hn
                replace Yn := Yn.below hn
                have out := Blk.new W3 30 #[.slice none 0 0, .slice none 0 0]
                have hbn := bt2 hbx hn
                refine hK.out _ _ ?_ (fun hHeld => ?_)
                · exact ⟨cell_on (hbn) p0, cell_on (hbn) p1, cell_on (hbn) p2, cell_on (hbn) p3⟩
                clear hK K
                try simp only [rq0, rq1, rq2, Act.put, rq3, rq4, rq5]
                replace hbx := hbn
                have hsz4 : W3.heap.size ≤ (W3.alloc (.cells #[.slice none 0 0, .slice none 0 0] 30)).heap.size := by simp
                clear hbn hn
                generalize W3.alloc (.cells #[.slice none 0 0, .slice none 0 0] 30) = W4 at hbx hsz4 r2 q2 Ln Mn Xn Yn out ⊢
                refine wpAnyH_ready (rs := [9]) (by kernel_rfl) (by simp) (AllReadyH.cons (o := _) rfl (fun K hK => ?_) AllReadyH.nil)
                have r0 : W4.cell? ⟨W3.heap.size, 0, none⟩ = some (.slice none 0 0) := out.cell 0
                have r1 : W4.cell? ⟨W3.heap.size, 1, none⟩ = some (.slice none 0 0) := out.cell 1
                have s0 : W4.frozen? ⟨W3.heap.size, 0, none⟩ = false := out.free 0
                have s1 : W4.frozen? ⟨W3.heap.size, 1, none⟩ = false := out.free 1
                simp only [rq0, rq1, rq2]
                go_simp
                refine hK.out _ _ ?_ (fun hHeld => ?_)
                · exact ⟨cell_on ((hbx.setCell hoK _).setCell hoK _) p0, cell_on ((hbx.setCell hoK _).setCell hoK _) p1, cell_on ((hbx.setCell hoK _).setCell hoK _) p2, cell_on ((hbx.setCell hoK _).setCell hoK _) p3⟩
                clear hK K
                try simp only [rq0, rq1, rq2, Act.put, rq3, rq4, rq5]
                clear r0 r1 s0 s1
                refine wpAnyH_take (i := 10) (oi := _) (v := ?_) rfl (by kernel_rfl) (by kernel_rfl) (by kernel_rfl) (fun _ _ _ h => h) (Or.inl ⟨by rfl, ?_⟩) (by assumption) ?_
                rotate_left
                · (intro wS hSw; (try dsimp only at hSw); (try go_split_ands); (simp only [List.getElem_toArray, List.getElem_cons_succ, List.getElem_cons_zero]); go_simp <;> (with_reducible rfl))
                try simp only [List.getElem_toArray, List.getElem_cons_succ, List.getElem_cons_zero, Act.put, List.setIfInBounds_toArray, List.set_cons_zero, List.set_cons_succ]
                refine wpAnyH_done (by kernel_rfl) ?_ _
                refine NoPanic.normal ?_
                clear hHeld
                have kF : Blk ((W4.setCell ⟨W3.heap.size, 0, none⟩ (.slice An E.length cn)).setCell ⟨W3.heap.size, 1, none⟩ (.slice Bn F.length dn)) (W3.heap.size) 30 #[.slice An E.length cn, .slice Bn F.length dn] := by simpa using (out.set 0 (.slice An E.length cn)).set 1 (.slice Bn F.length dn)
                have gF := grown_set (grown_set (g := W3.heap.size) (World.grownBy.refl W4 _) (p := ⟨W3.heap.size, 0, none⟩) (.inl rfl) (.slice An E.length cn)) (p := ⟨W3.heap.size, 1, none⟩) (.inl rfl) (.slice Bn F.length dn)
                go_wp2_with fail
                go_meet
                exact ⟨W3.heap.size, An, Bn, cn, dn, rfl, rfl, hoK, kF, (hbx.setCell hoK _).setCell hoK _, rl_out Xn Ln out gF, rl_out Yn Mn out gF, rowx_out Xn out gF, rowx_out Yn out gF, fun z hz => ⟨(hAn z hz).1, by have := (hAn z hz).2; simp [World.setCell]; omega⟩, fun z hz => ⟨(hBn z hz).1, by have := (hBn z hz).2; simp [World.setCell]; omega⟩⟩
              · skip -- 8
                simp only [rq0, rq1, rq2]
                go_simp
                have hoK : w12.heap.size ≤ W2.heap.size := hbx.size
                have hn : Below W2.heap.size W2 (W2.alloc (.cells #[.slice none 0 0, .slice none 0 0] 30)) := (Below.refl _ _).alloc (Nat.le_refl _) _
                replace r2 := r2.below hn
                replace q2 := q2.below hn
                have out := Blk.new W2 30 #[.slice none 0 0, .slice none 0 0]
                have hbn := bt2 hbx hn
                refine hK.out _ _ ?_ (fun hHeld => ?_)
                · exact ⟨cell_on (hbn) p0, cell_on (hbn) p1, cell_on (hbn) p2, cell_on (hbn) p3⟩
                clear hK K
                try simp only [rq0, rq1, rq2, Act.put, rq3, rq4, rq5]
                replace hbx := hbn
                have hsz3 : W2.heap.size ≤ (W2.alloc (.cells #[.slice none 0 0, .slice none 0 0] 30)).heap.size := by simp
                clear hbn hn
                generalize W2.alloc (.cells #[.slice none 0 0, .slice none 0 0] 30) = W3 at hbx hsz3 r2 q2 out ⊢
                refine wpAnyH_ready (rs := [4]) (by kernel_rfl) (by simp) (AllReadyH.cons (o := _) rfl (fun K hK => ?_) AllReadyH.nil)
                simp only [rq0, rq1, rq2]
                go_simp
                (go_at_call 25; refine (hI.out _ _ _ _ _ r2 q2 lx lw).mono ?_; rintro e W4 ⟨An, cn, Bn, dn, rfl, hn, Ln, Mn, Xn, Yn, hAn, hBn⟩)
                replace r2 := r2.below hn
                replace q2 := q2.below hn
                replace out := out.below hn
                have hN0 := hbx.size
                replace hbx := bt2 hbx hn
                replace Xn := Xn.toB hN0
                replace Yn := Yn.toB hN0
                replace hAn : ∀ z, An.map (·.block) = some z → w12.heap.size ≤ z ∧ z < W4.heap.size := fun z hz => ⟨Nat.le_trans hN0 (hAn z hz).1, (hAn z hz).2⟩
                replace hBn : ∀ z, Bn.map (·.block) = some z → w12.heap.size ≤ z ∧ z < W4.heap.size := fun z hz => ⟨Nat.le_trans hN0 (hBn z hz).1, (hBn z hz).2⟩
                clear hn hN0
                refine hK.out _ _ ?_ (fun hHeld => ?_)
                · exact ⟨cell_on (hbx) p0, cell_on (hbx) p1, cell_on (hbx) p2, cell_on (hbx) p3⟩
                clear hK K
                try simp only [rq0, rq1, rq2, Act.put, rq3, rq4, rq5]
                refine wpAnyH_take (i := 5) (oi := _) (v := ?_) rfl (by kernel_rfl) (by kernel_rfl) (by kernel_rfl) (fun _ _ _ h => h) (Or.inl ⟨by rfl, ?_⟩) (by assumption) ?_
                rotate_left
                · (intro wS hSw; (try dsimp only at hSw); (try go_split_ands); (simp only [List.getElem_toArray, List.getElem_cons_succ, List.getElem_cons_zero]); go_simp <;> (with_reducible rfl))
                try simp only [List.getElem_toArray, List.getElem_cons_succ, List.getElem_cons_zero, Act.put, List.setIfInBounds_toArray, List.set_cons_zero, List.set_cons_succ]
                refine wpAnyH_take (i := 6) (oi := _) (v := ?_) rfl (by kernel_rfl) (by kernel_rfl) (by kernel_rfl) (fun _ _ _ h => h) (Or.inl ⟨by rfl, ?_⟩) (by assumption) ?_
                rotate_left
                · (intro wS hSw; (try dsimp only at hSw); (try go_split_ands); (simp only [List.getElem_toArray, List.getElem_cons_succ, List.getElem_cons_zero]); go_simp <;> (with_reducible rfl))
                try simp only [List.getElem_toArray, List.getElem_cons_succ, List.getElem_cons_zero, Act.put, List.setIfInBounds_toArray, List.set_cons_zero, List.set_cons_succ]
                refine wpAnyH_take (i := 7) (oi := _) (v := ?_) rfl (by kernel_rfl) (by kernel_rfl) (by kernel_rfl) (fun _ _ _ h => h) (Or.inl ⟨by rfl, ?_⟩) (by assumption) ?_
                rotate_left
                · (intro wS hSw; (try dsimp only at hSw); (try go_split_ands); (simp only [List.getElem_toArray, List.getElem_cons_succ, List.getElem_cons_zero]); go_simp <;> (with_reducible rfl))
                try simp only [List.getElem_toArray, List.getElem_cons_succ, List.getElem_cons_zero, Act.put, List.setIfInBounds_toArray, List.set_cons_zero, List.set_cons_succ]
                refine wpAnyH_ready (rs := [9]) (by kernel_rfl) (by simp) (AllReadyH.cons (o := _) rfl (fun K hK => ?_) AllReadyH.nil)
                have r0 : W4.cell? ⟨W2.heap.size, 0, none⟩ = some (.slice none 0 0) := out.cell 0
                have r1 : W4.cell? ⟨W2.heap.size, 1, none⟩ = some (.slice none 0 0) := out.cell 1
                have s0 : W4.frozen? ⟨W2.heap.size, 0, none⟩ = false := out.free 0
                have s1 : W4.frozen? ⟨W2.heap.size, 1, none⟩ = false := out.free 1
                simp only [rq0, rq1, rq2]
                go_simp
                refine hK.out _ _ ?_ (fun hHeld => ?_)
                · exact ⟨cell_on ((hbx.setCell hoK _).setCell hoK _) p0, cell_on ((hbx.setCell hoK _).setCell hoK _) p1, cell_on ((hbx.setCell hoK _).setCell hoK _) p2, cell_on ((hbx.setCell hoK _).setCell hoK _) p3⟩
                clear hK K
                try simp only [rq0, rq1, rq2, Act.put, rq3, rq4, rq5]
                clear r0 r1 s0 s1
                refine wpAnyH_take (i := 10) (oi := _) (v := ?_) rfl (by kernel_rfl) (by kernel_rfl) (by kernel_rfl) (fun _ _ _ h => h) (Or.inl ⟨by rfl, ?_⟩) (by assumption) ?_
                rotate_left
                · (intro wS hSw; (try dsimp only at hSw); (try go_split_ands); (simp only [List.getElem_toArray, List.getElem_cons_succ, List.getElem_cons_zero]); go_simp <;> (with_reducible rfl))
                try simp only [List.getElem_toArray, List.getElem_cons_succ, List.getElem_cons_zero, Act.put, List.setIfInBounds_toArray, List.set_cons_zero, List.set_cons_succ]
                refine wpAnyH_done (by kernel_rfl) ?_ _
                refine NoPanic.normal ?_
                clear hHeld
                have kF : Blk ((W4.setCell ⟨W2.heap.size, 0, none⟩ (.slice An E.length cn)).setCell ⟨W2.heap.size, 1, none⟩ (.slice Bn F.length dn)) (W2.heap.size) 30 #[.slice An E.length cn, .slice Bn F.length dn] := by simpa using (out.set 0 (.slice An E.length cn)).set 1 (.slice Bn F.length dn)
                have gF := grown_set (grown_set (g := W2.heap.size) (World.grownBy.refl W4 _) (p := ⟨W2.heap.size, 0, none⟩) (.inl rfl) (.slice An E.length cn)) (p := ⟨W2.heap.size, 1, none⟩) (.inl rfl) (.slice Bn F.length dn)
                go_wp2_with fail
                go_meet
                exact ⟨W2.heap.size, An, Bn, cn, dn, rfl, rfl, hoK, kF, (hbx.setCell hoK _).setCell hoK _, rl_out Xn Ln out gF, rl_out Yn Mn out gF, rowx_out Xn out gF, rowx_out Yn out gF, fun z hz => ⟨(hAn z hz).1, by have := (hAn z hz).2; simp [World.setCell]; omega⟩, fun z hz => ⟨(hBn z hz).1, by have := (hBn z hz).2; simp [World.setCell]; omega⟩⟩
            · skip -- 8
              simp only [rq0, rq1, rq2]
              go_simp
              have hoK : w12.heap.size ≤ W1.heap.size := hbx.size
              have hn : Below W1.heap.size W1 (W1.alloc (.cells #[.slice none 0 0, .slice none 0 0] 30)) := (Below.refl _ _).alloc (Nat.le_refl _) _
              replace r2 := r2.below hn
              replace q2 := q2.below hn
              have out := Blk.new W1 30 #[.slice none 0 0, .slice none 0 0]
              have hbn := bt2 hbx hn
              refine hK.out _ _ ?_ (fun hHeld => ?_)
              · exact ⟨cell_on (hbn) p0, cell_on (hbn) p1, cell_on (hbn) p2, cell_on (hbn) p3⟩
              clear hK K
              try simp only [rq0, rq1, rq2, Act.put, rq3, rq4, rq5]
              replace hbx := hbn
              have hsz2 : W1.heap.size ≤ (W1.alloc (.cells #[.slice none 0 0, .slice none 0 0] 30)).heap.size := by simp
              clear hbn hn
              generalize W1.alloc (.cells #[.slice none 0 0, .slice none 0 0] 30) = W2 at hbx hsz2 r2 q2 out ⊢
              refine wpAnyH_ready (rs := [3]) (by kernel_rfl) (by simp) (AllReadyH.cons (o := _) rfl (fun K hK => ?_) AllReadyH.nil)
              simp only [rq0, rq1, rq2]
              go_simp
              (go_at_call 35; refine (hTW.out _).mono ?_; rintro e W3 ⟨rfl, hn⟩)
              replace r2 := r2.below hn
              replace q2 := q2.below hn
              replace out := out.below hn
              have hN0 := hbx.size
              replace hbx := bt2 hbx hn
              clear hn hN0
              refine hK.out _ _ ?_ (fun hHeld => ?_)
              · exact ⟨cell_on (hbx) p0, cell_on (hbx) p1, cell_on (hbx) p2, cell_on (hbx) p3⟩
              clear hK K
              try simp only [rq0, rq1, rq2, Act.put, rq3, rq4, rq5]
              refine wpAnyH_ready (rs := [4]) (by kernel_rfl) (by simp) (AllReadyH.cons (o := _) rfl (fun K hK => ?_) AllReadyH.nil)
              simp only [rq0, rq1, rq2]
              go_simp
              (go_at_call 25; refine (hI.out _ _ _ _ _ r2 q2 lx lw).mono ?_; rintro e W4 ⟨An, cn, Bn, dn, rfl, hn, Ln, Mn, Xn, Yn, hAn, hBn⟩)
              replace r2 := r2.below hn
              replace q2 := q2.below hn
              replace out := out.below hn
              have hN0 := hbx.size
              replace hbx := bt2 hbx hn
              replace Xn := Xn.toB hN0
              replace Yn := Yn.toB hN0
              replace hAn : ∀ z, An.map (·.block) = some z → w12.heap.size ≤ z ∧ z < W4.heap.size := fun z hz => ⟨Nat.le_trans hN0 (hAn z hz).1, (hAn z hz).2⟩
              replace hBn : ∀ z, Bn.map (·.block) = some z → w12.heap.size ≤ z ∧ z < W4.heap.size := fun z hz => ⟨Nat.le_trans hN0 (hBn z hz).1, (hBn z hz).2⟩
              clear hn hN0
              refine hK.out _ _ ?_ (fun hHeld => ?_)
              · exact ⟨cell_on (hbx) p0, cell_on (hbx) p1, cell_on (hbx) p2, cell_on (hbx) p3⟩
              clear hK K
              try simp only [rq0, rq1, rq2, Act.put, rq3, rq4, rq5]
              refine wpAnyH_take (i := 5) (oi := _) (v := ?_) rfl (by kernel_rfl) (by kernel_rfl) (by kernel_rfl) (fun _ _ _ h => h) (Or.inl ⟨by rfl, ?_⟩) (by assumption) ?_
              rotate_left
              · (intro wS hSw; (try dsimp only at hSw); (try go_split_ands); (simp only [List.getElem_toArray, List.getElem_cons_succ, List.getElem_cons_zero]); go_simp <;> (with_reducible rfl))
              try simp only [List.getElem_toArray, List.getElem_cons_succ, List.getElem_cons_zero, Act.put, List.setIfInBounds_toArray, List.set_cons_zero, List.set_cons_succ]
              refine wpAnyH_take (i := 6) (oi := _) (v := ?_) rfl (by kernel_rfl) (by kernel_rfl) (by kernel_rfl) (fun _ _ _ h => h) (Or.inl ⟨by rfl, ?_⟩) (by assumption) ?_
              rotate_left
              · (intro wS hSw; (try dsimp only at hSw); (try go_split_ands); (simp only [List.getElem_toArray, List.getElem_cons_succ, List.getElem_cons_zero]); go_simp <;> (with_reducible rfl))
              try simp only [List.getElem_toArray, List.getElem_cons_succ, List.getElem_cons_zero, Act.put, List.setIfInBounds_toArray, List.set_cons_zero, List.set_cons_succ]
              refine wpAnyH_take (i := 7) (oi := _) (v := ?_) rfl (by kernel_rfl) (by kernel_rfl) (by kernel_rfl) (fun _ _ _ h => h) (Or.inl ⟨by rfl, ?_⟩) (by assumption) ?_
              rotate_left
              · (intro wS hSw; (try dsimp only at hSw); (try go_split_ands); (simp only [List.getElem_toArray, List.getElem_cons_succ, List.getElem_cons_zero]); go_simp <;> (with_reducible rfl))
              try simp only [List.getElem_toArray, List.getElem_cons_succ, List.getElem_cons_zero, Act.put, List.setIfInBounds_toArray, List.set_cons_zero, List.set_cons_succ]
              refine wpAnyH_ready (rs := [9]) (by kernel_rfl) (by simp) (AllReadyH.cons (o := _) rfl (fun K hK => ?_) AllReadyH.nil)
              have r0 : W4.cell? ⟨W1.heap.size, 0, none⟩ = some (.slice none 0 0) := out.cell 0
              have r1 : W4.cell? ⟨W1.heap.size, 1, none⟩ = some (.slice none 0 0) := out.cell 1
              have s0 : W4.frozen? ⟨W1.heap.size, 0, none⟩ = false := out.free 0
              have s1 : W4.frozen? ⟨W1.heap.size, 1, none⟩ = false := out.free 1
              simp only [rq0, rq1, rq2]
              go_simp
              refine hK.out _ _ ?_ (fun hHeld => ?_)
              · exact ⟨cell_on ((hbx.setCell hoK _).setCell hoK _) p0, cell_on ((hbx.setCell hoK _).setCell hoK _) p1, cell_on ((hbx.setCell hoK _).setCell hoK _) p2, cell_on ((hbx.setCell hoK _).setCell hoK _) p3⟩
              clear hK K
              try simp only [rq0, rq1, rq2, Act.put, rq3, rq4, rq5]
              clear r0 r1 s0 s1
              refine wpAnyH_take (i := 10) (oi := _) (v := ?_) rfl (by kernel_rfl) (by kernel_rfl) (by kernel_rfl) (fun _ _ _ h => h) (Or.inl ⟨by rfl, ?_⟩) (by assumption) ?_
              rotate_left
              · (intro wS hSw; (try dsimp only at hSw); (try go_split_ands); (simp only [List.getElem_toArray, List.getElem_cons_succ, List.getElem_cons_zero]); go_simp <;> (with_reducible rfl))
              try simp only [List.getElem_toArray, List.getElem_cons_succ, List.getElem_cons_zero, Act.put, List.setIfInBounds_toArray, List.set_cons_zero, List.set_cons_succ]
              refine wpAnyH_done (by kernel_rfl) ?_ _
              refine NoPanic.normal ?_
              clear hHeld
              have kF : Blk ((W4.setCell ⟨W1.heap.size, 0, none⟩ (.slice An E.length cn)).setCell ⟨W1.heap.size, 1, none⟩ (.slice Bn F.length dn)) (W1.heap.size) 30 #[.slice An E.length cn, .slice Bn F.length dn] := by simpa using (out.set 0 (.slice An E.length cn)).set 1 (.slice Bn F.length dn)
              have gF := grown_set (grown_set (g := W1.heap.size) (World.grownBy.refl W4 _) (p := ⟨W1.heap.size, 0, none⟩) (.inl rfl) (.slice An E.length cn)) (p := ⟨W1.heap.size, 1, none⟩) (.inl rfl) (.slice Bn F.length dn)
              go_wp2_with fail
              go_meet
              exact ⟨W1.heap.size, An, Bn, cn, dn, rfl, rfl, hoK, kF, (hbx.setCell hoK _).setCell hoK _, rl_out Xn Ln out gF, rl_out Yn Mn out gF, rowx_out Xn out gF, rowx_out Yn out gF, fun z hz => ⟨(hAn z hz).1, by have := (hAn z hz).2; simp [World.setCell]; omega⟩, fun z hz => ⟨(hBn z hz).1, by have := (hBn z hz).2; simp [World.setCell]; omega⟩⟩
          · skip -- 8
            simp only [rq0, rq1, rq2]
            go_simp
            have hoK : w12.heap.size ≤ W0.heap.size := hbx.size
            have hn : Below W0.heap.size W0 (W0.alloc (.cells #[.slice none 0 0, .slice none 0 0] 30)) := (Below.refl _ _).alloc (Nat.le_refl _) _
            have out := Blk.new W0 30 #[.slice none 0 0, .slice none 0 0]
            have hbn := bt2 hbx hn
            refine hK.out _ _ ?_ (fun hHeld => ?_)
            · exact ⟨cell_on (hbn) p0, cell_on (hbn) p1, cell_on (hbn) p2, cell_on (hbn) p3⟩
            clear hK K
            try simp only [rq0, rq1, rq2, Act.put, rq3, rq4, rq5]
            replace hbx := hbn
            have hsz1 : W0.heap.size ≤ (W0.alloc (.cells #[.slice none 0 0, .slice none 0 0] 30)).heap.size := by simp
            clear hbn hn
            generalize W0.alloc (.cells #[.slice none 0 0, .slice none 0 0] 30) = W1 at hbx hsz1 out ⊢
            refine wpAnyH_ready (rs := [1]) (by kernel_rfl) (by simp) (AllReadyH.cons (o := _) rfl (fun K hK => ?_) AllReadyH.nil)
            simp only [rq0, rq1, rq2]
            go_simp
            (go_at_call 17; refine (toDk A B c d xs ws _ (hr.below hbx) (hq.below hbx) lx lw).mono ?_; rintro e W2 ⟨g2, k2, rfl, r2, q2, hn⟩)
            replace out := out.below hn
            have hN0 := hbx.size
            replace hbx := bt2 hbx hn
            clear hn hN0
            refine hK.out _ _ ?_ (fun hHeld => ?_)
            · exact ⟨cell_on (hbx) p0, cell_on (hbx) p1, cell_on (hbx) p2, cell_on (hbx) p3⟩
            clear hK K
            try simp only [rq0, rq1, rq2, Act.put, rq3, rq4, rq5]
            refine wpAnyH_ready (rs := [3]) (by kernel_rfl) (by simp) (AllReadyH.cons (o := _) rfl (fun K hK => ?_) AllReadyH.nil)
            simp only [rq0, rq1, rq2]
            go_simp
            (go_at_call 35; refine (hTW.out _).mono ?_; rintro e W3 ⟨rfl, hn⟩)
            replace out := out.below hn
            replace r2 := r2.below hn
            replace q2 := q2.below hn
            have hN0 := hbx.size
            replace hbx := bt2 hbx hn
            clear hn hN0
            refine hK.out _ _ ?_ (fun hHeld => ?_)
            · exact ⟨cell_on (hbx) p0, cell_on (hbx) p1, cell_on (hbx) p2, cell_on (hbx) p3⟩
            clear hK K
            try simp only [rq0, rq1, rq2, Act.put, rq3, rq4, rq5]
            refine wpAnyH_ready (rs := [4]) (by kernel_rfl) (by simp) (AllReadyH.cons (o := _) rfl (fun K hK => ?_) AllReadyH.nil)
            simp only [rq0, rq1, rq2]
            go_simp
            (go_at_call 25; refine (hI.out _ _ _ _ _ r2 q2 lx lw).mono ?_; rintro e W4 ⟨An, cn, Bn, dn, rfl, hn, Ln, Mn, Xn, Yn, hAn, hBn⟩)
            replace out := out.below hn
            replace r2 := r2.below hn
            replace q2 := q2.below hn
            have hN0 := hbx.size
            replace hbx := bt2 hbx hn
            replace Xn := Xn.toB hN0
            replace Yn := Yn.toB hN0
            replace hAn : ∀ z, An.map (·.block) = some z → w12.heap.size ≤ z ∧ z < W4.heap.size := fun z hz => ⟨Nat.le_trans hN0 (hAn z hz).1, (hAn z hz).2⟩
            replace hBn : ∀ z, Bn.map (·.block) = some z → w12.heap.size ≤ z ∧ z < W4.heap.size := fun z hz => ⟨Nat.le_trans hN0 (hBn z hz).1, (hBn z hz).2⟩
            clear hn hN0
            refine hK.out _ _ ?_ (fun hHeld => ?_)
            · exact ⟨cell_on (hbx) p0, cell_on (hbx) p1, cell_on (hbx) p2, cell_on (hbx) p3⟩
            clear hK K
            try simp only [rq0, rq1, rq2, Act.put, rq3, rq4, rq5]
            refine wpAnyH_take (i := 5) (oi := _) (v := ?_) rfl (by kernel_rfl) (by kernel_rfl) (by kernel_rfl) (fun _ _ _ h => h) (Or.inl ⟨by rfl, ?_⟩) (by assumption) ?_
            rotate_left
            · (intro wS hSw; (try dsimp only at hSw); (try go_split_ands); (simp only [List.getElem_toArray, List.getElem_cons_succ, List.getElem_cons_zero]); go_simp <;> (with_reducible rfl))
            try simp only [List.getElem_toArray, List.getElem_cons_succ, List.getElem_cons_zero, Act.put, List.setIfInBounds_toArray, List.set_cons_zero, List.set_cons_succ]
            refine wpAnyH_take (i := 6) (oi := _) (v := ?_) rfl (by kernel_rfl) (by kernel_rfl) (by kernel_rfl) (fun _ _ _ h => h) (Or.inl ⟨by rfl, ?_⟩) (by assumption) ?_
            rotate_left
            · (intro wS hSw; (try dsimp only at hSw); (try go_split_ands); (simp only [List.getElem_toArray, List.getElem_cons_succ, List.getElem_cons_zero]); go_simp <;> (with_reducible rfl))
            try simp only [List.getElem_toArray, List.getElem_cons_succ, List.getElem_cons_zero, Act.put, List.setIfInBounds_toArray, List.set_cons_zero, List.set_cons_succ]
            refine wpAnyH_take (i := 7) (oi := _) (v := ?_) rfl (by kernel_rfl) (by kernel_rfl) (by kernel_rfl) (fun _ _ _ h => h) (Or.inl ⟨by rfl, ?_⟩) (by assumption) ?_
            rotate_left
            · (intro wS hSw; (try dsimp only at hSw); (try go_split_ands); (simp only [List.getElem_toArray, List.getElem_cons_succ, List.getElem_cons_zero]); go_simp <;> (with_reducible rfl))
            try simp only [List.getElem_toArray, List.getElem_cons_succ, List.getElem_cons_zero, Act.put, List.setIfInBounds_toArray, List.set_cons_zero, List.set_cons_succ]
            refine wpAnyH_ready (rs := [9]) (by kernel_rfl) (by simp) (AllReadyH.cons (o := _) rfl (fun K hK => ?_) AllReadyH.nil)
            have r0 : W4.cell? ⟨W0.heap.size, 0, none⟩ = some (.slice none 0 0) := out.cell 0
            have r1 : W4.cell? ⟨W0.heap.size, 1, none⟩ = some (.slice none 0 0) := out.cell 1
            have s0 : W4.frozen? ⟨W0.heap.size, 0, none⟩ = false := out.free 0
            have s1 : W4.frozen? ⟨W0.heap.size, 1, none⟩ = false := out.free 1
            simp only [rq0, rq1, rq2]
            go_simp
            refine hK.out _ _ ?_ (fun hHeld => ?_)
            · exact ⟨cell_on ((hbx.setCell hoK _).setCell hoK _) p0, cell_on ((hbx.setCell hoK _).setCell hoK _) p1, cell_on ((hbx.setCell hoK _).setCell hoK _) p2, cell_on ((hbx.setCell hoK _).setCell hoK _) p3⟩
            clear hK K
            try simp only [rq0, rq1, rq2, Act.put, rq3, rq4, rq5]
            clear r0 r1 s0 s1
            refine wpAnyH_take (i := 10) (oi := _) (v := ?_) rfl (by kernel_rfl) (by kernel_rfl) (by kernel_rfl) (fun _ _ _ h => h) (Or.inl ⟨by rfl, ?_⟩) (by assumption) ?_
            rotate_left
            · (intro wS hSw; (try dsimp only at hSw); (try go_split_ands); (simp only [List.getElem_toArray, List.getElem_cons_succ, List.getElem_cons_zero]); go_simp <;> (with_reducible rfl))
            try simp only [List.getElem_toArray, List.getElem_cons_succ, List.getElem_cons_zero, Act.put, List.setIfInBounds_toArray, List.set_cons_zero, List.set_cons_succ]
            refine wpAnyH_done (by kernel_rfl) ?_ _
            refine NoPanic.normal ?_
            clear hHeld
            have kF : Blk ((W4.setCell ⟨W0.heap.size, 0, none⟩ (.slice An E.length cn)).setCell ⟨W0.heap.size, 1, none⟩ (.slice Bn F.length dn)) (W0.heap.size) 30 #[.slice An E.length cn, .slice Bn F.length dn] := by simpa using (out.set 0 (.slice An E.length cn)).set 1 (.slice Bn F.length dn)
            have gF := grown_set (grown_set (g := W0.heap.size) (World.grownBy.refl W4 _) (p := ⟨W0.heap.size, 0, none⟩) (.inl rfl) (.slice An E.length cn)) (p := ⟨W0.heap.size, 1, none⟩) (.inl rfl) (.slice Bn F.length dn)
            go_wp2_with fail
            go_meet
            exact ⟨W0.heap.size, An, Bn, cn, dn, rfl, rfl, hoK, kF, (hbx.setCell hoK _).setCell hoK _, rl_out Xn Ln out gF, rl_out Yn Mn out gF, rowx_out Xn out gF, rowx_out Yn out gF, fun z hz => ⟨(hAn z hz).1, by have := (hAn z hz).2; simp [World.setCell]; omega⟩, fun z hz => ⟨(hBn z hz).1, by have := (hBn z hz).2; simp [World.setCell]; omega⟩⟩
        case rest =>
          obtain ⟨K14, A14, B14, c14, d14, rfl, rfl, hK14, k14, hn, L14, M14, -, -, -, -⟩ := hcut
          obtain ⟨w13, rfl⟩ : ∃ w13, w13 = wc := ⟨_, rfl⟩
          replace hr := hr.below hn
          replace hq := hq.below hn
          replace kB := kB.below hn
          replace kX := kX.below hn
          replace k6 := k6.below hn
          replace L6 := L6.below hn
          replace M6 := M6.below hn
          replace k9 := k9.below hn
          replace TI := TI.below hn
          replace TW := TW.below hn
          replace p0 := cell_on hn p0
          replace p1 := cell_on hn p1
          replace p2 := cell_on hn p2
          replace p3 := cell_on hn p3
          replace y0 := cell_on hn y0
          replace y1 := cell_on hn y1
          replace z0 := cell_on hn z0
          replace z1 := cell_on hn z1
          replace hbb := bt2 hbb hn
          clear hn
          have u0 : w13.cell? ⟨K14, 0, none⟩ = some (.slice A14 E.length c14) := k14.cell 0
          have u1 : w13.cell? ⟨K14, 1, none⟩ = some (.slice B14 F.length d14) := k14.cell 1
          go_wp2_with fail
          refine (eqDk _ _ _ _ _ _ _ _ E F _ L14 M14 L6 M6 (by omega) (by omega)).mono ?_
          rintro e w14 ⟨rfl, hn⟩
          have hzw14 := hn.size
          replace hr := hr.below hn
          replace hq := hq.below hn
          replace kB := kB.below hn
          replace kX := kX.below hn
          replace k6 := k6.below hn
          replace L6 := L6.below hn
          replace M6 := M6.below hn
          replace k9 := k9.below hn
          replace TI := TI.below hn
          replace TW := TW.below hn
          replace p0 := cell_on hn p0
          replace p1 := cell_on hn p1
          replace p2 := cell_on hn p2
          replace p3 := cell_on hn p3
          replace y0 := cell_on hn y0
          replace y1 := cell_on hn y1
          replace z0 := cell_on hn z0
          replace z1 := cell_on hn z1
          replace hbb := bt2 hbb hn
          clear hn
          clear u0 u1 k14 L14 M14
          go_wp2_with fail
          refine (heldX A9 B9 c9 d9 E.length F.length 1 g h _ TI TW (by omega) (by omega) (by omega)).mono ?_
          rintro e w15 ⟨rfl, hn⟩
          have hzw15 := hn.size
          replace hr := hr.below hn
          replace hq := hq.below hn
          replace kB := kB.below hn
          replace kX := kX.below hn
          replace k6 := k6.below hn
          replace L6 := L6.below hn
          replace M6 := M6.below hn
          replace k9 := k9.below hn
          replace TI := TI.below hn
          replace TW := TW.below hn
          replace p0 := cell_on hn p0
          replace p1 := cell_on hn p1
          replace p2 := cell_on hn p2
          replace p3 := cell_on hn p3
          replace y0 := cell_on hn y0
          replace y1 := cell_on hn y1
          replace z0 := cell_on hn z0
          replace z1 := cell_on hn z1
          replace hbb := bt2 hbb hn
          clear hn
          go_wp2_with fail
          go_ret
          exact ⟨rfl, hbb⟩

end Go.Proofs.Ytgabjepoooageaa
