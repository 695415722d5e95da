/-
  The statement that rows are ordered like their values, walked. Conditions: the argument reads as a list of bytes.
-/
import Derived.Test.YtngmiaglbmkbcaaVR
import Derived.Maps.AppendAt
import Derived.Deep.RegionHeld3
import Derived.Deep.DrawnRows
namespace Go.Proofs.Ytngmiaglbmkbcaa
open Go.RowKit
set_option linter.unusedVariables false
set_option linter.unusedSimpArgs false

/-- 'append' of a slice that reads as a row, nil let in, onto a row of the call's own in block b; another row of the call's own stays. -/
theorem app_far (w : World) (base b c0 : Nat) (xs : List Vl) (hown : w.ownsRow base 28 3 (.slice (some ⟨b, 0, none⟩) xs.length c0) xs.length (xs.flatMap encV)) (A : Option Addr) (c : Nat) (ys : List Vl) (hr : Rl encV 3 w A ys) (hn : xs.length + ys.length ≤ 10000) (hbase : base ≤ w.heap.size) :
    ∃ v' w', (Builtin.append_ #[38, 38] 38 #[.slice (some ⟨b, 0, none⟩) xs.length c0, .slice A ys.length c]).run Try.prog w = .ok v' w' ∧ w'.ownsRow base 28 3 v' (xs ++ ys).length ((xs ++ ys).flatMap encV) ∧ w.grownBy w' (some b) ∧ (v'.ownBlock = some b ∨ v'.ownBlock = some w.heap.size) := by
  obtain ⟨i0, hi, hz0, hz1, hz2⟩ := info_parts infoW
  cases A with
  | none =>
    have hy : ys = [] := by
      rcases hr with h | ⟨b, off, h, _⟩
      · exact h
      · cases h
    subst hy
    refine ⟨.slice (some ⟨b, 0, none⟩) xs.length c0, w, ?_, by simpa using hown, World.grownBy.refl _ _, .inl rfl⟩
    rcases hown.2 with ⟨h, h0⟩ | ⟨g, cap, cur, he, _, _, hnc, _⟩
    · cases h
    · cases he
      simp [Builtin.append_, run_underlying (P := Try.prog) Try.underlying38, sizeOf, typeInfo, hi, Builtin.lenOf, Builtin.firstCells, hnc, storeCells]
  | some ad =>
    obtain ⟨v', w', h1, h2, h3, _, h4⟩ := run_append_own_at (P := Try.prog) w base 38 38 28 i0 (.agg #[.int .i64 0, .int .i64 0, .string ByteArray.empty]) 3 32 Try.underlying38 hi hz0 hz1 hz2 rfl (by decide) _ xs.length _ hown ad ys.length c (ys.flatMap encV) (by rw [length_flatMap_size encV_len]) (fun j u hu => by
      have hz : j < ys.length * 3 := by
        have := (List.getElem?_eq_some_iff.1 hu).1
        rw [length_flatMap_size encV_len] at this
        exact this
      have hk : j / 3 < ys.length := by omega
      obtain ⟨b', off', e, hc⟩ := hr.at hk
      cases e
      rw [add_off]
      have h2 : (ys.flatMap encV)[j / 3 * 3 + j % 3]? = (encV ys[j / 3])[j % 3]? := by
        have h3 : j % 3 < (encV ys[j / 3]).length := by rw [encV_len]; omega
        rw [List.getElem?_eq_getElem h3]
        exact getElem?_flatMap_size encV_len _ _ _ ys[j / 3] _ (List.getElem?_eq_getElem hk) (List.getElem?_eq_getElem h3)
      rw [show j = j / 3 * 3 + j % 3 by omega] at hu
      rw [h2] at hu
      have := hc (j % 3) u hu
      rw [show off' + j / 3 * 3 + j % 3 = off' + j by omega] at this
      exact this) (fun u hu => by obtain ⟨x, _, hx⟩ := List.mem_flatMap.1 hu; exact encV_one1 x u hx) (by unfold maxLen; omega) (by omega) hbase
    exact ⟨v', w', h1, by simpa using h2, h3, h4⟩
theorem own_lit (w : World) (x : Vl) (base G : Nat) (hG : w.heap.size = G) (hB : base ≤ G) : (w.alloc (.cells #[.int .i64 x.k, .int .i64 x.n, .string x.s] 28)).ownsRow base 28 3 (.slice (some ⟨G, 0, none⟩) [x].length 1) [x].length ([x].flatMap encV) := by
  subst hG
  exact ⟨by simp [encV], .inr ⟨w.heap.size, 1, #[.int .i64 x.k, .int .i64 x.n, .string x.s], rfl, hB, heap_alloc_new _ _, Nat.le_refl _, by unfold maxLen; omega, by simp, by simp [encV]⟩⟩
theorem wp_app {o : Oper} {a : Act} {K : Act → World → Prop} {Q : Exit → Act → World → Prop} {w w' : World} (s x : Operand) (ho : o.op = .call { callee := .builtin .append, args := #[s, x], argTypes := #[38, 38] })
    (hty : o.type = 38) {v v' : Value} {A : Option Addr} {m c : Nat} (hs : a.eval s = v) (hx : a.eval x = .slice A m c) (hrun : (Builtin.append_ #[38, 38] 38 #[v, .slice A m c]).run Try.prog w = .ok v' w')
    (h : K (a.put o.dst v') w') : o.wp Try.prog a w K Q := by
  unfold Oper.wp execOp
  simp only [ho, hty, resolve, invoke, builtin, Sem.run_bind, Sem.run_pure, Result.andThen_ok, List.map_toArray, List.map_cons, List.map_nil, hs, hx, hrun]
  exact h
theorem fit_cons {x : Vl} {xs : List Vl} (hx : x.s.size ≤ 9223372036854775807) (h : Fit xs) : Fit ([x] ++ xs) := fun v hv => by
  rcases List.mem_append.1 hv with hv | hv
  · rw [List.mem_singleton.1 hv]; exact hx
  · exact h v hv

set_option maxHeartbeats 4000000 in
theorem rowsLaw_walk (A : Option Addr) (c : Nat) (zs : List Int) (w : World) (h : Bytes w A c zs) :
    Calls Try.prog 11 #[.slice A zs.length c] w fun e w' => e = .returned (.bool true) ∧ Below w.heap.size w w' := by
  have hcap := h.cap
  have hmax := h.max
  by_cases hl : 1048576 < zs.length
  · go_enter Try.func11, Try.ntmps11
    go_wp2
    go_ret
    exact ⟨rfl, Below.refl _ _⟩
  · go_enter Try.func11, Try.ntmps11
    go_wp2_with fail
    refine (drawRows A c zs _ h).mono ?_
    rintro e w1 ⟨P, p, xs, Q, q, ys, rfl, hx, hy, lx, ly, sx, sy, hb1⟩
    have fx := sm_fit1 sx
    have fy := sm_fit1 sy
    have px := hx.cap
    have py := hy.cap
    have mx := hx.max
    have my := hy.max
    by_cases h2 : CR xs ys = 2
    · go_wp2_with fail
      refine (crI P Q p q xs ys _ hx.rl hy.rl fx fy (by omega) (by omega)).mono ?_
      rintro e w2 ⟨rfl, hb2⟩
      rw [h2]
      go_wp2_with fail
      refine (crS P Q p q xs ys _ (hx.rl.below hb2) (hy.rl.below hb2) fx fy (by omega) (by omega)).mono ?_
      rintro e w3 ⟨rfl, hb3⟩
      rw [h2]
      have hb3' := bt2 (bt2 hb1 hb2) hb3
      go_wp2_with fail
      refine (crS P Q p q xs ys _ ((hx.rl.below hb2).below hb3) ((hy.rl.below hb2).below hb3) fx fy (by omega) (by omega)).mono ?_
      rintro e w4 ⟨rfl, hb4⟩
      rw [h2]
      go_wp2_with fail
      go_ret
      exact ⟨rfl, bt2 hb3' hb4⟩
    · have hv : vrB xs = true ∧ vrB ys = true := by
        cases hh : (vrB xs && vrB ys)
        · exact absurd (CR_two.2 hh) h2
        · rwa [Bool.and_eq_true] at hh
      have hrng := crF_rng ci_rng xs ys
      rw [← CR_ci hv.1 hv.2] at hrng
      have hopp := CR_opp hv.1 hv.2
      have hzero := CR_zero hv.1 hv.2
      obtain ⟨m, hm⟩ : ∃ m : Int, m = (zs.length : Int) % 9 := ⟨_, rfl⟩
      have hvv : vv (⟨1, m, ⟨#[]⟩⟩ : Vl) = true := by
        unfold vv vvB
        rw [if_neg (by simp), if_pos rfl, show emp ⟨#[]⟩ = true by decide +kernel, Bool.and_true, rng_iff]
        dsimp only
        omega
      have hcons : xs.length < 5 → ys.length < 5 → ∀ A B c d W, Rl encV 3 W A ([(⟨1, m, ⟨#[]⟩⟩ : Vl)] ++ xs) → Rl encV 3 W B ([(⟨1, m, ⟨#[]⟩⟩ : Vl)] ++ ys) → Calls Try.prog 26 #[.slice A ([(⟨1, m, ⟨#[]⟩⟩ : Vl)] ++ xs).length c, .slice B ([(⟨1, m, ⟨#[]⟩⟩ : Vl)] ++ ys).length d] W fun e w' => e = .returned (.int .i64 (CR xs ys)) ∧ Below W.heap.size W w' := fun la lb A B c d W ha hb => by
        have := crI A B c d ([(⟨1, m, ⟨#[]⟩⟩ : Vl)] ++ xs) ([(⟨1, m, ⟨#[]⟩⟩ : Vl)] ++ ys) W ha hb (fit_cons (by show (ByteArray.mk #[]).size ≤ _; decide) fx) (fit_cons (by show (ByteArray.mk #[]).size ≤ _; decide) fy) (by simp; omega) (by simp; omega)
        rw [show CR ([(⟨1, m, ⟨#[]⟩⟩ : Vl)] ++ xs) ([(⟨1, m, ⟨#[]⟩⟩ : Vl)] ++ ys) = CR xs ys from CR_cons hvv hv.1 hv.2 la lb] at this
        exact this
      have hcI := hide (fun W ha hb => crI P Q p q xs ys W ha hb fx fy (by omega) (by omega))
      have hcS := hide (fun W ha hb => crS P Q p q xs ys W ha hb fx fy (by omega) (by omega))
      have hcJ := hide (fun W ha hb => crI Q P q p ys xs W hb ha fy fx (by omega) (by omega))
      have heq : eqL xs ys = (CR xs ys == 0) := by
        rw [Bool.eq_iff_iff, eqL_iff, beq_iff_eq]
        exact hzero.symm
      have heR := hide (fun W ha hb => eqRow_any P Q p q xs ys W ha hb (by omega) (by omega))
      rw [heq] at heR
      rw [hopp] at hcJ
      have hm' := hide hm
      clear hopp hzero heq h2 hv hvv hm
      have hch := hide hcons
      clear hcons
      generalize CR xs ys = n at hcI hcS hcJ heR hch hrng
      have n2 : (n == 2) = false := by rw [beq_eq_false_iff_ne]; omega
      have n0 : (n != n) = false := by simp
      have e1 : (-n == -n) = true := by simp
      have e2 : ((n == 0) == (n == 0)) = true := by simp
      go_wp2_with fail
      refine (hcI.out _ hx.rl hy.rl).mono ?_
      rintro e w2 ⟨rfl, hb2⟩
      go_wp2_with fail
      refine (hcS.out _ (hx.rl.below hb2) (hy.rl.below hb2)).mono ?_
      rintro e w3 ⟨rfl, hb3⟩
      have hb3' := bt2 (bt2 hb1 hb2) hb3
      have hx3 := (hx.rl.below hb2).below hb3
      have hy3 := (hy.rl.below hb2).below hb3
      clear hb1 hb2 hb3 hx hy
      go_wp2_with fail
      rw [← hm'.out]
      clear hm'
      have kd := Blk.new w3 28 #[.int .i64 1, .int .i64 m, .string ⟨#[]⟩]
      have hbd : Below w3.heap.size w3 (w3.alloc (.cells #[.int .i64 1, .int .i64 m, .string ⟨#[]⟩] 28)) := (Below.refl _ _).alloc (Nat.le_refl _) _
      have hxd := hx3.below hbd
      have hyd := hy3.below hbd
      have hbd' := bt2 hb3' hbd
      generalize w3.alloc (.cells #[.int .i64 1, .int .i64 m, .string ⟨#[]⟩] 28) = wd at kd hxd hyd hbd' ⊢
      have c0 : wd.cell? ⟨w3.heap.size, 0, none⟩ = some (.int .i64 1) := kd.cell 0
      have c1 : wd.cell? ⟨w3.heap.size, 1, none⟩ = some (.int .i64 m) := kd.cell 1
      have c2 : wd.cell? ⟨w3.heap.size, 2, none⟩ = some (.string ⟨#[]⟩) := kd.cell 2
      have hbx : Below wd.heap.size wd wd.drew := (Below.refl _ _).drew
      clear kd hbd hx3 hy3 hb3' hcI hcS
      by_cases h5 : xs.length < 5
      · by_cases h6 : ys.length < 5
        · have h5' : (xs.length : Int) < 5 := by omega
          have h6' : (ys.length : Int) < 5 := by omega
          refine wp_region_noPanic ?_
          refine wp_region_held_drew (S := (fun w' => w'.cell? ⟨w3.heap.size, 0, none⟩ = some (.int .i64 1) ∧ w'.cell? ⟨w3.heap.size, 1, none⟩ = some (.int .i64 m) ∧ w'.cell? ⟨w3.heap.size, 2, none⟩ = some (.string ⟨#[]⟩))) (by kernel_rfl) ?_ (fun hHeld => ?_)
          · exact ⟨cell_on (hbx) c0, cell_on (hbx) c1, cell_on (hbx) c2⟩
          refine wpAnyH_take (i := 0) (oi := _) (v := ?_) rfl (by kernel_rfl) (by kernel_rfl) (by kernel_rfl) (fun _ _ _ h => h) (Or.inl ⟨by rfl, ?_⟩) (by assumption) ?_
          rotate_left
          · (intro wS hSw; (try dsimp only at hSw); (try go_split_ands); (simp only [List.getElem_toArray, List.getElem_cons_succ, List.getElem_cons_zero]); go_simp <;> (with_reducible rfl))
          try simp only [List.getElem_toArray, List.getElem_cons_succ, List.getElem_cons_zero, Act.put, List.setIfInBounds_toArray, List.set_cons_zero, List.set_cons_succ]
          refine wpAnyH_take (i := 1) (oi := _) (v := ?_) rfl (by kernel_rfl) (by kernel_rfl) (by kernel_rfl) (fun _ _ _ h => h) (Or.inl ⟨by rfl, ?_⟩) (by assumption) ?_
          rotate_left
          · (intro wS hSw; (try dsimp only at hSw); (try go_split_ands); (simp only [List.getElem_toArray, List.getElem_cons_succ, List.getElem_cons_zero]); go_simp <;> (with_reducible rfl))
          try simp only [List.getElem_toArray, List.getElem_cons_succ, List.getElem_cons_zero, Act.put, List.setIfInBounds_toArray, List.set_cons_zero, List.set_cons_succ]
          refine wpAnyH_take (i := 2) (oi := _) (v := ?_) rfl (by kernel_rfl) (by kernel_rfl) (by kernel_rfl) (fun _ _ _ h => h) (Or.inl ⟨by rfl, ?_⟩) (by assumption) ?_
          rotate_left
          · (intro wS hSw; (try dsimp only at hSw); (try go_split_ands); (simp only [List.getElem_toArray, List.getElem_cons_succ, List.getElem_cons_zero]); go_simp <;> (with_reducible rfl))
          try simp only [List.getElem_toArray, List.getElem_cons_succ, List.getElem_cons_zero, Act.put, List.setIfInBounds_toArray, List.set_cons_zero, List.set_cons_succ]
          refine wpAnyH_take (i := 3) (oi := _) (v := ?_) rfl (by kernel_rfl) (by kernel_rfl) (by kernel_rfl) (fun _ _ _ h => h) (Or.inl ⟨by rfl, ?_⟩) (by assumption) ?_
          rotate_left
          · (intro wS hSw; (try dsimp only at hSw); (try go_split_ands); (simp only [List.getElem_toArray, List.getElem_cons_succ, List.getElem_cons_zero]); go_simp <;> (with_reducible rfl))
          try simp only [List.getElem_toArray, List.getElem_cons_succ, List.getElem_cons_zero, Act.put, List.setIfInBounds_toArray, List.set_cons_zero, List.set_cons_succ]
          refine wpAnyH_take (i := 4) (oi := _) (v := ?_) rfl (by kernel_rfl) (by kernel_rfl) (by kernel_rfl) (fun _ _ _ h => h) (Or.inl ⟨by rfl, ?_⟩) (by assumption) ?_
          rotate_left
          · (intro wS hSw; (try dsimp only at hSw); (try go_split_ands); (simp only [List.getElem_toArray, List.getElem_cons_succ, List.getElem_cons_zero]); go_simp <;> (with_reducible rfl))
          try simp only [List.getElem_toArray, List.getElem_cons_succ, List.getElem_cons_zero, Act.put, List.setIfInBounds_toArray, List.set_cons_zero, List.set_cons_succ]
          refine wpAnyH_take (i := 5) (oi := _) (v := ?_) rfl (by kernel_rfl) (by kernel_rfl) (by kernel_rfl) (fun _ _ _ h => h) (Or.inl ⟨by rfl, ?_⟩) (by assumption) ?_
          rotate_left
          · (intro wS hSw; (try dsimp only at hSw); (try go_split_ands); (simp only [List.getElem_toArray, List.getElem_cons_succ, List.getElem_cons_zero]); go_simp <;> (with_reducible rfl))
          try simp only [List.getElem_toArray, List.getElem_cons_succ, List.getElem_cons_zero, Act.put, List.setIfInBounds_toArray, List.set_cons_zero, List.set_cons_succ]
          refine wpAnyH_take (i := 6) (oi := _) (v := ?_) rfl (by kernel_rfl) (by kernel_rfl) (by kernel_rfl) (fun _ _ _ h => h) (Or.inl ⟨by rfl, ?_⟩) (by assumption) ?_
          rotate_left
          · (intro wS hSw; (try dsimp only at hSw); (try go_split_ands); (simp only [List.getElem_toArray, List.getElem_cons_succ, List.getElem_cons_zero]); go_simp <;> (with_reducible rfl))
          try simp only [List.getElem_toArray, List.getElem_cons_succ, List.getElem_cons_zero, Act.put, List.setIfInBounds_toArray, List.set_cons_zero, List.set_cons_succ]
          refine wpAnyH_take (i := 7) (oi := _) (v := ?_) rfl (by kernel_rfl) (by kernel_rfl) (by kernel_rfl) (fun _ _ _ h => h) (Or.inl ⟨by rfl, ?_⟩) (by assumption) ?_
          rotate_left
          · (intro wS hSw; (try dsimp only at hSw); (try go_split_ands); (simp only [List.getElem_toArray, List.getElem_cons_succ, List.getElem_cons_zero]); go_simp <;> (with_reducible rfl))
          try simp only [List.getElem_toArray, List.getElem_cons_succ, List.getElem_cons_zero, Act.put, List.setIfInBounds_toArray, List.set_cons_zero, List.set_cons_succ]
          refine wpAnyH_take (i := 8) (oi := _) (v := ?_) rfl (by kernel_rfl) (by kernel_rfl) (by kernel_rfl) (fun _ _ _ h => h) (Or.inl ⟨by rfl, ?_⟩) (by assumption) ?_
          rotate_left
          · (intro wS hSw; (try dsimp only at hSw); (try go_split_ands); (simp only [List.getElem_toArray, List.getElem_cons_succ, List.getElem_cons_zero]); go_simp <;> (with_reducible rfl))
          try simp only [List.getElem_toArray, List.getElem_cons_succ, List.getElem_cons_zero, Act.put, List.setIfInBounds_toArray, List.set_cons_zero, List.set_cons_succ]
          refine wpAnyH_take (i := 9) (oi := _) (v := ?_) rfl (by kernel_rfl) (by kernel_rfl) (by kernel_rfl) (fun _ _ _ h => h) (Or.inl ⟨by rfl, ?_⟩) (by assumption) ?_
          rotate_left
          · (intro wS hSw; (try dsimp only at hSw); (try go_split_ands); (simp only [List.getElem_toArray, List.getElem_cons_succ, List.getElem_cons_zero]); go_simp <;> (with_reducible rfl))
          try simp only [List.getElem_toArray, List.getElem_cons_succ, List.getElem_cons_zero, Act.put, List.setIfInBounds_toArray, List.set_cons_zero, List.set_cons_succ]
          refine wpAnyH_take (i := 11) (oi := _) (v := ?_) rfl (by kernel_rfl) (by kernel_rfl) (by kernel_rfl) (fun _ _ _ h => h) (Or.inl ⟨by rfl, ?_⟩) (by assumption) ?_
          rotate_left
          · (intro wS hSw; (try dsimp only at hSw); (try go_split_ands); (simp only [List.getElem_toArray, List.getElem_cons_succ, List.getElem_cons_zero]); go_simp <;> (with_reducible rfl))
          try simp only [List.getElem_toArray, List.getElem_cons_succ, List.getElem_cons_zero, Act.put, List.setIfInBounds_toArray, List.set_cons_zero, List.set_cons_succ]
          refine wpAnyH_take (i := 13) (oi := _) (v := ?_) rfl (by kernel_rfl) (by kernel_rfl) (by kernel_rfl) (fun _ _ _ h => h) (Or.inl ⟨by rfl, ?_⟩) (by assumption) ?_
          rotate_left
          · (intro wS hSw; (try dsimp only at hSw); (try go_split_ands); (simp only [List.getElem_toArray, List.getElem_cons_succ, List.getElem_cons_zero]); go_simp <;> (with_reducible rfl))
          try simp only [List.getElem_toArray, List.getElem_cons_succ, List.getElem_cons_zero, Act.put, List.setIfInBounds_toArray, List.set_cons_zero, List.set_cons_succ]
          refine wpAnyH_take (i := 15) (oi := _) (v := ?_) rfl (by kernel_rfl) (by kernel_rfl) (by kernel_rfl) (fun _ _ _ h => h) (Or.inl ⟨by rfl, ?_⟩) (by assumption) ?_
          rotate_left
          · (intro wS hSw; (try dsimp only at hSw); (try go_split_ands); (simp only [List.getElem_toArray, List.getElem_cons_succ, List.getElem_cons_zero]); go_simp <;> (with_reducible rfl))
          try simp only [List.getElem_toArray, List.getElem_cons_succ, List.getElem_cons_zero, Act.put, List.setIfInBounds_toArray, List.set_cons_zero, List.set_cons_succ]
          refine wpAnyH_take (i := 18) (oi := _) (v := ?_) rfl (by kernel_rfl) (by kernel_rfl) (by kernel_rfl) (fun _ _ _ h => h) (Or.inl ⟨by rfl, ?_⟩) (by assumption) ?_
          rotate_left
          · (intro wS hSw; (try dsimp only at hSw); (try go_split_ands); (simp only [List.getElem_toArray, List.getElem_cons_succ, List.getElem_cons_zero]); go_simp <;> (with_reducible rfl))
          try simp only [List.getElem_toArray, List.getElem_cons_succ, List.getElem_cons_zero, Act.put, List.setIfInBounds_toArray, List.set_cons_zero, List.set_cons_succ]
          refine wpAnyH_ready (rs := [10, 14]) (by kernel_rfl) (by simp) (AllReadyH.cons (o := _) rfl (fun K hK => ?_) (AllReadyH.cons (o := _) rfl (fun K hK => ?_) AllReadyH.nil))
          · skip
            simp only [List.getElem_toArray, List.getElem_cons_succ, List.getElem_cons_zero]
            go_simp
            have own1 : ((wd.alloc (.cells #[.int .i64 1, .int .i64 m, .string ⟨#[]⟩] 28)).drew).ownsRow _ _ _ _ _ _ := own_lit wd (⟨1, m, ⟨#[]⟩⟩ : Vl) wd.heap.size wd.heap.size rfl (by omega)
            have hba : Below wd.heap.size wd (wd.alloc (.cells #[.int .i64 1, .int .i64 m, .string ⟨#[]⟩] 28)).drew := ((Below.refl _ wd).alloc (Nat.le_refl _) _).drew
            refine hK.out _ _ ?_ (fun hHeld => ?_)
            · exact ⟨cell_on (hba) c0, cell_on (hba) c1, cell_on (hba) c2⟩
            clear hK K
            try simp only [List.getElem_toArray, List.getElem_cons_succ, List.getElem_cons_zero, Act.put, List.setIfInBounds_toArray, List.set_cons_zero, List.set_cons_succ]
            generalize (wd.alloc (.cells #[.int .i64 1, .int .i64 m, .string ⟨#[]⟩] 28)).drew = wa at own1 hba ⊢
            have hza : wd.heap.size < wa.heap.size := ow_lt own1 rfl
            refine wpAnyH_ready (rs := [12, 14]) (by kernel_rfl) (by simp) (AllReadyH.cons (o := _) rfl (fun K hK => ?_) (AllReadyH.cons (o := _) rfl (fun K hK => ?_) AllReadyH.nil))
            · skip
              simp only [List.getElem_toArray, List.getElem_cons_succ, List.getElem_cons_zero]
              rw [if_pos (by rfl)]
              obtain ⟨v1, wb, hrun, ownA, hg1, hat1⟩ := app_far wa wd.heap.size _ 1 [(⟨1, m, ⟨#[]⟩⟩ : Vl)] own1 P p xs (hxd.below hba) (by simp; omega) (by first | omega | (simp; omega))
              refine wp_app (.tmp 46) (.tmp 47) (by rfl) (by rfl) (by rfl) (by rfl) hrun ?_
              clear hrun
              have hbb : Below wd.heap.size wd wb := below_of_grown hba hg1 (Nat.le_refl _) hba.size
              refine hK.out _ _ ?_ (fun hHeld => ?_)
              · exact ⟨cell_on (hbb) c0, cell_on (hbb) c1, cell_on (hbb) c2⟩
              clear hK K
              try simp only [List.getElem_toArray, List.getElem_cons_succ, List.getElem_cons_zero, Act.put, List.setIfInBounds_toArray, List.set_cons_zero, List.set_cons_succ]
              have hzb : ∀ k, v1.ownBlock = some k → k < wb.heap.size := fun k hk => ow_lt ownA hk
              have hsz1 := hg1.size
              refine wpAnyH_ready (rs := [14]) (by kernel_rfl) (by simp) (AllReadyH.cons (o := _) rfl (fun K hK => ?_) AllReadyH.nil)
              simp only [List.getElem_toArray, List.getElem_cons_succ, List.getElem_cons_zero]
              go_simp
              have own2 := own_lit wb (⟨1, m, ⟨#[]⟩⟩ : Vl) wd.heap.size (wb.heap.size) (by first | rfl | (simp; done) | (simp; omega) | omega) (by omega)
              have hbc : Below wd.heap.size wd (wb.alloc (.cells #[.int .i64 1, .int .i64 m, .string ⟨#[]⟩] 28)) := hbb.alloc hbb.size _
              replace ownA := ow_below ownA ((Below.refl _ wb).alloc (Nat.le_refl _) (.cells #[.int .i64 1, .int .i64 m, .string ⟨#[]⟩] 28))
              refine hK.out _ _ ?_ (fun hHeld => ?_)
              · exact ⟨cell_on (hbc) c0, cell_on (hbc) c1, cell_on (hbc) c2⟩
              clear hK K
              try simp only [List.getElem_toArray, List.getElem_cons_succ, List.getElem_cons_zero, Act.put, List.setIfInBounds_toArray, List.set_cons_zero, List.set_cons_succ]
              have hsz2 : wb.heap.size ≤ (wb.alloc (.cells #[.int .i64 1, .int .i64 m, .string ⟨#[]⟩] 28)).heap.size := by simp
              generalize wb.alloc (.cells #[.int .i64 1, .int .i64 m, .string ⟨#[]⟩] 28) = wc at own2 ownA hbc hsz2 ⊢
              refine wpAnyH_ready (rs := [16]) (by kernel_rfl) (by simp) (AllReadyH.cons (o := _) rfl (fun K hK => ?_) AllReadyH.nil)
              simp only [List.getElem_toArray, List.getElem_cons_succ, List.getElem_cons_zero]
              rw [if_pos (by rfl)]
              obtain ⟨v2, we, hrun, ownB, hg2, hat2⟩ := app_far wc wd.heap.size _ 1 [(⟨1, m, ⟨#[]⟩⟩ : Vl)] own2 Q q ys (hyd.below hbc) (by simp; omega) (by first | omega | (simp; omega))
              refine wp_app (.tmp 50) (.tmp 51) (by rfl) (by rfl) (by rfl) (by rfl) hrun ?_
              clear hrun
              have hbw : Below wd.heap.size wd we := below_of_grown hbc hg2 (by omega) hbc.size
              replace ownA := World.ownsRow.kept ownA hg2 (.inr (fun e => by have := hzb _ e; omega))
              refine hK.out _ _ ?_ (fun hHeld => ?_)
              · exact ⟨cell_on (hbw) c0, cell_on (hbw) c1, cell_on (hbw) c2⟩
              clear hK K
              try simp only [List.getElem_toArray, List.getElem_cons_succ, List.getElem_cons_zero, Act.put, List.setIfInBounds_toArray, List.set_cons_zero, List.set_cons_succ]
              obtain ⟨A1, c1', rfl, L1, -⟩ := ow_open (by omega) encV_len ownA
              obtain ⟨A2, c2', rfl, L2, -⟩ := ow_open (by omega) encV_len ownB
              refine wpAnyH_ready (rs := [17]) (by kernel_rfl) (by simp) (AllReadyH.cons (o := _) rfl (fun K hK => ?_) AllReadyH.nil)
              simp only [List.getElem_toArray, List.getElem_cons_succ, List.getElem_cons_zero]
              go_simp
              (go_at_call 26; refine (hch.out h5 h6 A1 A2 c1' c2' _ L1.rl L2.rl).mono ?_; rintro e wz ⟨rfl, hbz⟩; have hbe := bt2 hbw hbz)
              refine hK.out _ _ ?_ (fun hHeld => ?_)
              · exact ⟨cell_on (hbe) c0, cell_on (hbe) c1, cell_on (hbe) c2⟩
              clear hK K
              try simp only [List.getElem_toArray, List.getElem_cons_succ, List.getElem_cons_zero, Act.put, List.setIfInBounds_toArray, List.set_cons_zero, List.set_cons_succ]
              refine wpAnyH_take (i := 19) (oi := _) (v := ?_) rfl (by kernel_rfl) (by kernel_rfl) (by kernel_rfl) (fun _ _ _ h => h) (Or.inl ⟨by rfl, ?_⟩) (by assumption) ?_
              rotate_left
              · (intro wS hSw; (try dsimp only at hSw); (try go_split_ands); (simp only [List.getElem_toArray, List.getElem_cons_succ, List.getElem_cons_zero]); go_simp <;> (with_reducible rfl))
              try simp only [List.getElem_toArray, List.getElem_cons_succ, List.getElem_cons_zero, Act.put, List.setIfInBounds_toArray, List.set_cons_zero, List.set_cons_succ]
              refine wpAnyH_take (i := 20) (oi := _) (v := ?_) rfl (by kernel_rfl) (by kernel_rfl) (by kernel_rfl) (fun _ _ _ h => h) (Or.inl ⟨by rfl, ?_⟩) (by assumption) ?_
              rotate_left
              · (intro wS hSw; (try dsimp only at hSw); (try go_split_ands); (simp only [List.getElem_toArray, List.getElem_cons_succ, List.getElem_cons_zero]); go_simp <;> (with_reducible rfl))
              try simp only [List.getElem_toArray, List.getElem_cons_succ, List.getElem_cons_zero, Act.put, List.setIfInBounds_toArray, List.set_cons_zero, List.set_cons_succ]
              refine wpAnyH_done (by kernel_rfl) ?_ _
              refine NoPanic.normal ?_
              clear hHeld
              have hxe := hxd.below (hbe)
              have hye := hyd.below (hbe)
              have hbe' := bt2 hbd' (hbe)
              go_wp2_with fail
              refine (hcJ.out _ hxe hye).mono ?_
              rintro e w8 ⟨rfl, hb8⟩
              go_wp2_with fail
              refine (heR.out _ (hxe.below hb8) (hye.below hb8)).mono ?_
              rintro e w9 ⟨rfl, hb9⟩
              go_wp2_with fail
              go_ret
              exact ⟨rfl, bt2 hbe' (bt2 hb8 hb9)⟩
            · skip
              simp only [List.getElem_toArray, List.getElem_cons_succ, List.getElem_cons_zero]
              go_simp
              have own2 := own_lit wa (⟨1, m, ⟨#[]⟩⟩ : Vl) wd.heap.size (wa.heap.size) (by first | rfl | (simp; done) | (simp; omega) | omega) (by omega)
              have hbc : Below wd.heap.size wd (wa.alloc (.cells #[.int .i64 1, .int .i64 m, .string ⟨#[]⟩] 28)) := hba.alloc hba.size _
              replace own1 := ow_below own1 ((Below.refl _ wa).alloc (Nat.le_refl _) (.cells #[.int .i64 1, .int .i64 m, .string ⟨#[]⟩] 28))
              refine hK.out _ _ ?_ (fun hHeld => ?_)
              · exact ⟨cell_on (hbc) c0, cell_on (hbc) c1, cell_on (hbc) c2⟩
              clear hK K
              try simp only [List.getElem_toArray, List.getElem_cons_succ, List.getElem_cons_zero, Act.put, List.setIfInBounds_toArray, List.set_cons_zero, List.set_cons_succ]
              have hsz2 : wa.heap.size < (wa.alloc (.cells #[.int .i64 1, .int .i64 m, .string ⟨#[]⟩] 28)).heap.size := by simp
              generalize wa.alloc (.cells #[.int .i64 1, .int .i64 m, .string ⟨#[]⟩] 28) = wc at own2 own1 hbc hsz2 ⊢
              refine wpAnyH_ready (rs := [12]) (by kernel_rfl) (by simp) (AllReadyH.cons (o := _) rfl (fun K hK => ?_) AllReadyH.nil)
              simp only [List.getElem_toArray, List.getElem_cons_succ, List.getElem_cons_zero]
              rw [if_pos (by rfl)]
              obtain ⟨v1, wb, hrun, ownA, hg1, hat1⟩ := app_far wc wd.heap.size _ 1 [(⟨1, m, ⟨#[]⟩⟩ : Vl)] own1 P p xs (hxd.below hbc) (by simp; omega) (by first | omega | (simp; omega))
              refine wp_app (.tmp 46) (.tmp 47) (by rfl) (by rfl) (by rfl) (by rfl) hrun ?_
              clear hrun
              have hbb : Below wd.heap.size wd wb := below_of_grown hbc hg1 (Nat.le_refl _) hbc.size
              have hsz1 := hg1.size
              have own3 := World.ownsRow.kept own2 hg1 (.inr (fun e => by simp [Value.ownBlock] at e; omega))
              refine hK.out _ _ ?_ (fun hHeld => ?_)
              · exact ⟨cell_on (hbb) c0, cell_on (hbb) c1, cell_on (hbb) c2⟩
              clear hK K
              try simp only [List.getElem_toArray, List.getElem_cons_succ, List.getElem_cons_zero, Act.put, List.setIfInBounds_toArray, List.set_cons_zero, List.set_cons_succ]
              refine wpAnyH_ready (rs := [16]) (by kernel_rfl) (by simp) (AllReadyH.cons (o := _) rfl (fun K hK => ?_) AllReadyH.nil)
              simp only [List.getElem_toArray, List.getElem_cons_succ, List.getElem_cons_zero]
              rw [if_pos (by rfl)]
              obtain ⟨v2, we, hrun, ownB, hg2, hat2⟩ := app_far wb wd.heap.size _ 1 [(⟨1, m, ⟨#[]⟩⟩ : Vl)] own3 Q q ys (hyd.below hbb) (by simp; omega) (by first | omega | (simp; omega))
              refine wp_app (.tmp 50) (.tmp 51) (by rfl) (by rfl) (by rfl) (by rfl) hrun ?_
              clear hrun
              have hbw : Below wd.heap.size wd we := below_of_grown hbb hg2 (by omega) hbb.size
              replace ownA := World.ownsRow.kept ownA hg2 (.inr (fun e => by rcases hat1 with h | h <;> (rw [h] at e; simp at e; omega)))
              refine hK.out _ _ ?_ (fun hHeld => ?_)
              · exact ⟨cell_on (hbw) c0, cell_on (hbw) c1, cell_on (hbw) c2⟩
              clear hK K
              try simp only [List.getElem_toArray, List.getElem_cons_succ, List.getElem_cons_zero, Act.put, List.setIfInBounds_toArray, List.set_cons_zero, List.set_cons_succ]
              obtain ⟨A1, c1', rfl, L1, -⟩ := ow_open (by omega) encV_len ownA
              obtain ⟨A2, c2', rfl, L2, -⟩ := ow_open (by omega) encV_len ownB
              refine wpAnyH_ready (rs := [17]) (by kernel_rfl) (by simp) (AllReadyH.cons (o := _) rfl (fun K hK => ?_) AllReadyH.nil)
              simp only [List.getElem_toArray, List.getElem_cons_succ, List.getElem_cons_zero]
              go_simp
              (go_at_call 26; refine (hch.out h5 h6 A1 A2 c1' c2' _ L1.rl L2.rl).mono ?_; rintro e wz ⟨rfl, hbz⟩; have hbe := bt2 hbw hbz)
              refine hK.out _ _ ?_ (fun hHeld => ?_)
              · exact ⟨cell_on (hbe) c0, cell_on (hbe) c1, cell_on (hbe) c2⟩
              clear hK K
              try simp only [List.getElem_toArray, List.getElem_cons_succ, List.getElem_cons_zero, Act.put, List.setIfInBounds_toArray, List.set_cons_zero, List.set_cons_succ]
              refine wpAnyH_take (i := 19) (oi := _) (v := ?_) rfl (by kernel_rfl) (by kernel_rfl) (by kernel_rfl) (fun _ _ _ h => h) (Or.inl ⟨by rfl, ?_⟩) (by assumption) ?_
              rotate_left
              · (intro wS hSw; (try dsimp only at hSw); (try go_split_ands); (simp only [List.getElem_toArray, List.getElem_cons_succ, List.getElem_cons_zero]); go_simp <;> (with_reducible rfl))
              try simp only [List.getElem_toArray, List.getElem_cons_succ, List.getElem_cons_zero, Act.put, List.setIfInBounds_toArray, List.set_cons_zero, List.set_cons_succ]
              refine wpAnyH_take (i := 20) (oi := _) (v := ?_) rfl (by kernel_rfl) (by kernel_rfl) (by kernel_rfl) (fun _ _ _ h => h) (Or.inl ⟨by rfl, ?_⟩) (by assumption) ?_
              rotate_left
              · (intro wS hSw; (try dsimp only at hSw); (try go_split_ands); (simp only [List.getElem_toArray, List.getElem_cons_succ, List.getElem_cons_zero]); go_simp <;> (with_reducible rfl))
              try simp only [List.getElem_toArray, List.getElem_cons_succ, List.getElem_cons_zero, Act.put, List.setIfInBounds_toArray, List.set_cons_zero, List.set_cons_succ]
              refine wpAnyH_done (by kernel_rfl) ?_ _
              refine NoPanic.normal ?_
              clear hHeld
              have hxe := hxd.below (hbe)
              have hye := hyd.below (hbe)
              have hbe' := bt2 hbd' (hbe)
              go_wp2_with fail
              refine (hcJ.out _ hxe hye).mono ?_
              rintro e w8 ⟨rfl, hb8⟩
              go_wp2_with fail
              refine (heR.out _ (hxe.below hb8) (hye.below hb8)).mono ?_
              rintro e w9 ⟨rfl, hb9⟩
              go_wp2_with fail
              go_ret
              exact ⟨rfl, bt2 hbe' (bt2 hb8 hb9)⟩
          · skip
            simp only [List.getElem_toArray, List.getElem_cons_succ, List.getElem_cons_zero]
            go_simp
            have own2 : ((wd.alloc (.cells #[.int .i64 1, .int .i64 m, .string ⟨#[]⟩] 28)).drew).ownsRow _ _ _ _ _ _ := own_lit wd (⟨1, m, ⟨#[]⟩⟩ : Vl) wd.heap.size wd.heap.size rfl (by omega)
            have hba : Below wd.heap.size wd (wd.alloc (.cells #[.int .i64 1, .int .i64 m, .string ⟨#[]⟩] 28)).drew := ((Below.refl _ wd).alloc (Nat.le_refl _) _).drew
            refine hK.out _ _ ?_ (fun hHeld => ?_)
            · exact ⟨cell_on (hba) c0, cell_on (hba) c1, cell_on (hba) c2⟩
            clear hK K
            try simp only [List.getElem_toArray, List.getElem_cons_succ, List.getElem_cons_zero, Act.put, List.setIfInBounds_toArray, List.set_cons_zero, List.set_cons_succ]
            generalize (wd.alloc (.cells #[.int .i64 1, .int .i64 m, .string ⟨#[]⟩] 28)).drew = wa at own2 hba ⊢
            have hza : wd.heap.size < wa.heap.size := ow_lt own2 rfl
            refine wpAnyH_ready (rs := [10]) (by kernel_rfl) (by simp) (AllReadyH.cons (o := _) rfl (fun K hK => ?_) AllReadyH.nil)
            simp only [List.getElem_toArray, List.getElem_cons_succ, List.getElem_cons_zero]
            go_simp
            have own1 := own_lit wa (⟨1, m, ⟨#[]⟩⟩ : Vl) wd.heap.size (wa.heap.size) (by first | rfl | (simp; done) | (simp; omega) | omega) (by omega)
            have hbc : Below wd.heap.size wd (wa.alloc (.cells #[.int .i64 1, .int .i64 m, .string ⟨#[]⟩] 28)) := hba.alloc hba.size _
            replace own2 := ow_below own2 ((Below.refl _ wa).alloc (Nat.le_refl _) (.cells #[.int .i64 1, .int .i64 m, .string ⟨#[]⟩] 28))
            refine hK.out _ _ ?_ (fun hHeld => ?_)
            · exact ⟨cell_on (hbc) c0, cell_on (hbc) c1, cell_on (hbc) c2⟩
            clear hK K
            try simp only [List.getElem_toArray, List.getElem_cons_succ, List.getElem_cons_zero, Act.put, List.setIfInBounds_toArray, List.set_cons_zero, List.set_cons_succ]
            have hsz2 : wa.heap.size < (wa.alloc (.cells #[.int .i64 1, .int .i64 m, .string ⟨#[]⟩] 28)).heap.size := by simp
            generalize wa.alloc (.cells #[.int .i64 1, .int .i64 m, .string ⟨#[]⟩] 28) = wc at own2 own1 hbc hsz2 ⊢
            refine wpAnyH_ready (rs := [12]) (by kernel_rfl) (by simp) (AllReadyH.cons (o := _) rfl (fun K hK => ?_) AllReadyH.nil)
            simp only [List.getElem_toArray, List.getElem_cons_succ, List.getElem_cons_zero]
            rw [if_pos (by rfl)]
            obtain ⟨v1, wb, hrun, ownA, hg1, hat1⟩ := app_far wc wd.heap.size _ 1 [(⟨1, m, ⟨#[]⟩⟩ : Vl)] own1 P p xs (hxd.below hbc) (by simp; omega) (by first | omega | (simp; omega))
            refine wp_app (.tmp 46) (.tmp 47) (by rfl) (by rfl) (by rfl) (by rfl) hrun ?_
            clear hrun
            have hbb : Below wd.heap.size wd wb := below_of_grown hbc hg1 (by omega) hbc.size
            have hsz1 := hg1.size
            have own3 := World.ownsRow.kept own2 hg1 (.inr (fun e => by simp [Value.ownBlock] at e; omega))
            refine hK.out _ _ ?_ (fun hHeld => ?_)
            · exact ⟨cell_on (hbb) c0, cell_on (hbb) c1, cell_on (hbb) c2⟩
            clear hK K
            try simp only [List.getElem_toArray, List.getElem_cons_succ, List.getElem_cons_zero, Act.put, List.setIfInBounds_toArray, List.set_cons_zero, List.set_cons_succ]
            refine wpAnyH_ready (rs := [16]) (by kernel_rfl) (by simp) (AllReadyH.cons (o := _) rfl (fun K hK => ?_) AllReadyH.nil)
            simp only [List.getElem_toArray, List.getElem_cons_succ, List.getElem_cons_zero]
            rw [if_pos (by rfl)]
            obtain ⟨v2, we, hrun, ownB, hg2, hat2⟩ := app_far wb wd.heap.size _ 1 [(⟨1, m, ⟨#[]⟩⟩ : Vl)] own3 Q q ys (hyd.below hbb) (by simp; omega) (by first | omega | (simp; omega))
            refine wp_app (.tmp 50) (.tmp 51) (by rfl) (by rfl) (by rfl) (by rfl) hrun ?_
            clear hrun
            have hbw : Below wd.heap.size wd we := below_of_grown hbb hg2 (by omega) hbb.size
            replace ownA := World.ownsRow.kept ownA hg2 (.inr (fun e => by rcases hat1 with h | h <;> (rw [h] at e; simp at e; omega)))
            refine hK.out _ _ ?_ (fun hHeld => ?_)
            · exact ⟨cell_on (hbw) c0, cell_on (hbw) c1, cell_on (hbw) c2⟩
            clear hK K
            try simp only [List.getElem_toArray, List.getElem_cons_succ, List.getElem_cons_zero, Act.put, List.setIfInBounds_toArray, List.set_cons_zero, List.set_cons_succ]
            obtain ⟨A1, c1', rfl, L1, -⟩ := ow_open (by omega) encV_len ownA
            obtain ⟨A2, c2', rfl, L2, -⟩ := ow_open (by omega) encV_len ownB
            refine wpAnyH_ready (rs := [17]) (by kernel_rfl) (by simp) (AllReadyH.cons (o := _) rfl (fun K hK => ?_) AllReadyH.nil)
            simp only [List.getElem_toArray, List.getElem_cons_succ, List.getElem_cons_zero]
            go_simp
            (go_at_call 26; refine (hch.out h5 h6 A1 A2 c1' c2' _ L1.rl L2.rl).mono ?_; rintro e wz ⟨rfl, hbz⟩; have hbe := bt2 hbw hbz)
            refine hK.out _ _ ?_ (fun hHeld => ?_)
            · exact ⟨cell_on (hbe) c0, cell_on (hbe) c1, cell_on (hbe) c2⟩
            clear hK K
            try simp only [List.getElem_toArray, List.getElem_cons_succ, List.getElem_cons_zero, Act.put, List.setIfInBounds_toArray, List.set_cons_zero, List.set_cons_succ]
            refine wpAnyH_take (i := 19) (oi := _) (v := ?_) rfl (by kernel_rfl) (by kernel_rfl) (by kernel_rfl) (fun _ _ _ h => h) (Or.inl ⟨by rfl, ?_⟩) (by assumption) ?_
            rotate_left
            · (intro wS hSw; (try dsimp only at hSw); (try go_split_ands); (simp only [List.getElem_toArray, List.getElem_cons_succ, List.getElem_cons_zero]); go_simp <;> (with_reducible rfl))
            try simp only [List.getElem_toArray, List.getElem_cons_succ, List.getElem_cons_zero, Act.put, List.setIfInBounds_toArray, List.set_cons_zero, List.set_cons_succ]
            refine wpAnyH_take (i := 20) (oi := _) (v := ?_) rfl (by kernel_rfl) (by kernel_rfl) (by kernel_rfl) (fun _ _ _ h => h) (Or.inl ⟨by rfl, ?_⟩) (by assumption) ?_
            rotate_left
            · (intro wS hSw; (try dsimp only at hSw); (try go_split_ands); (simp only [List.getElem_toArray, List.getElem_cons_succ, List.getElem_cons_zero]); go_simp <;> (with_reducible rfl))
            try simp only [List.getElem_toArray, List.getElem_cons_succ, List.getElem_cons_zero, Act.put, List.setIfInBounds_toArray, List.set_cons_zero, List.set_cons_succ]
            refine wpAnyH_done (by kernel_rfl) ?_ _
            refine NoPanic.normal ?_
            clear hHeld
            have hxe := hxd.below (hbe)
            have hye := hyd.below (hbe)
            have hbe' := bt2 hbd' (hbe)
            go_wp2_with fail
            refine (hcJ.out _ hxe hye).mono ?_
            rintro e w8 ⟨rfl, hb8⟩
            go_wp2_with fail
            refine (heR.out _ (hxe.below hb8) (hye.below hb8)).mono ?_
            rintro e w9 ⟨rfl, hb9⟩
            go_wp2_with fail
            go_ret
            exact ⟨rfl, bt2 hbe' (bt2 hb8 hb9)⟩
        · have h5' : (xs.length : Int) < 5 := by omega
          have h6' : ¬ ((ys.length : Int) < 5) := by omega
          have h7' : decide ((ys.length : Int) < 5) = false := decide_eq_false h6'
          clear hch
          refine wp_region_noPanic ?_
          refine wp_region_held_drew (S := (fun w' => w'.cell? ⟨w3.heap.size, 0, none⟩ = some (.int .i64 1) ∧ w'.cell? ⟨w3.heap.size, 1, none⟩ = some (.int .i64 m) ∧ w'.cell? ⟨w3.heap.size, 2, none⟩ = some (.string ⟨#[]⟩))) (by kernel_rfl) ?_ (fun hHeld => ?_)
          · exact ⟨cell_on (hbx) c0, cell_on (hbx) c1, cell_on (hbx) c2⟩
          refine wpAnyH_take (i := 0) (oi := _) (v := ?_) rfl (by kernel_rfl) (by kernel_rfl) (by kernel_rfl) (fun _ _ _ h => h) (Or.inl ⟨by rfl, ?_⟩) (by assumption) ?_
          rotate_left
          · (intro wS hSw; (try dsimp only at hSw); (try go_split_ands); (simp only [List.getElem_toArray, List.getElem_cons_succ, List.getElem_cons_zero]); go_simp <;> (with_reducible rfl))
          try simp only [List.getElem_toArray, List.getElem_cons_succ, List.getElem_cons_zero, Act.put, List.setIfInBounds_toArray, List.set_cons_zero, List.set_cons_succ]
          refine wpAnyH_take (i := 1) (oi := _) (v := ?_) rfl (by kernel_rfl) (by kernel_rfl) (by kernel_rfl) (fun _ _ _ h => h) (Or.inl ⟨by rfl, ?_⟩) (by assumption) ?_
          rotate_left
          · (intro wS hSw; (try dsimp only at hSw); (try go_split_ands); (simp only [List.getElem_toArray, List.getElem_cons_succ, List.getElem_cons_zero]); go_simp <;> (with_reducible rfl))
          try simp only [List.getElem_toArray, List.getElem_cons_succ, List.getElem_cons_zero, Act.put, List.setIfInBounds_toArray, List.set_cons_zero, List.set_cons_succ]
          refine wpAnyH_take (i := 2) (oi := _) (v := ?_) rfl (by kernel_rfl) (by kernel_rfl) (by kernel_rfl) (fun _ _ _ h => h) (Or.inl ⟨by rfl, ?_⟩) (by assumption) ?_
          rotate_left
          · (intro wS hSw; (try dsimp only at hSw); (try go_split_ands); (simp only [List.getElem_toArray, List.getElem_cons_succ, List.getElem_cons_zero]); go_simp <;> (with_reducible rfl))
          try simp only [List.getElem_toArray, List.getElem_cons_succ, List.getElem_cons_zero, Act.put, List.setIfInBounds_toArray, List.set_cons_zero, List.set_cons_succ]
          refine wpAnyH_take (i := 3) (oi := _) (v := ?_) rfl (by kernel_rfl) (by kernel_rfl) (by kernel_rfl) (fun _ _ _ h => h) (Or.inl ⟨by rfl, ?_⟩) (by assumption) ?_
          rotate_left
          · (intro wS hSw; (try dsimp only at hSw); (try go_split_ands); (simp only [List.getElem_toArray, List.getElem_cons_succ, List.getElem_cons_zero]); go_simp <;> (with_reducible rfl))
          try simp only [List.getElem_toArray, List.getElem_cons_succ, List.getElem_cons_zero, Act.put, List.setIfInBounds_toArray, List.set_cons_zero, List.set_cons_succ]
          refine wpAnyH_take (i := 4) (oi := _) (v := ?_) rfl (by kernel_rfl) (by kernel_rfl) (by kernel_rfl) (fun _ _ _ h => h) (Or.inl ⟨by rfl, ?_⟩) (by assumption) ?_
          rotate_left
          · (intro wS hSw; (try dsimp only at hSw); (try go_split_ands); (simp only [List.getElem_toArray, List.getElem_cons_succ, List.getElem_cons_zero]); go_simp <;> (with_reducible rfl))
          try simp only [List.getElem_toArray, List.getElem_cons_succ, List.getElem_cons_zero, Act.put, List.setIfInBounds_toArray, List.set_cons_zero, List.set_cons_succ]
          refine wpAnyH_take (i := 5) (oi := _) (v := ?_) rfl (by kernel_rfl) (by kernel_rfl) (by kernel_rfl) (fun _ _ _ h => h) (Or.inl ⟨by rfl, ?_⟩) (by assumption) ?_
          rotate_left
          · (intro wS hSw; (try dsimp only at hSw); (try go_split_ands); (simp only [List.getElem_toArray, List.getElem_cons_succ, List.getElem_cons_zero]); go_simp <;> (with_reducible rfl))
          try simp only [List.getElem_toArray, List.getElem_cons_succ, List.getElem_cons_zero, Act.put, List.setIfInBounds_toArray, List.set_cons_zero, List.set_cons_succ]
          refine wpAnyH_take (i := 6) (oi := _) (v := ?_) rfl (by kernel_rfl) (by kernel_rfl) (by kernel_rfl) (fun _ _ _ h => h) (Or.inl ⟨by rfl, ?_⟩) (by assumption) ?_
          rotate_left
          · (intro wS hSw; (try dsimp only at hSw); (try go_split_ands); (simp only [List.getElem_toArray, List.getElem_cons_succ, List.getElem_cons_zero]); go_simp <;> (with_reducible rfl))
          try simp only [List.getElem_toArray, List.getElem_cons_succ, List.getElem_cons_zero, Act.put, List.setIfInBounds_toArray, List.set_cons_zero, List.set_cons_succ]
          refine wpAnyH_take (i := 7) (oi := _) (v := ?_) rfl (by kernel_rfl) (by kernel_rfl) (by kernel_rfl) (fun _ _ _ h => h) (Or.inl ⟨by rfl, ?_⟩) (by assumption) ?_
          rotate_left
          · (intro wS hSw; (try dsimp only at hSw); (try go_split_ands); (simp only [List.getElem_toArray, List.getElem_cons_succ, List.getElem_cons_zero]); go_simp <;> (with_reducible rfl))
          try simp only [List.getElem_toArray, List.getElem_cons_succ, List.getElem_cons_zero, Act.put, List.setIfInBounds_toArray, List.set_cons_zero, List.set_cons_succ]
          refine wpAnyH_take (i := 8) (oi := _) (v := ?_) rfl (by kernel_rfl) (by kernel_rfl) (by kernel_rfl) (fun _ _ _ h => h) (Or.inl ⟨by rfl, ?_⟩) (by assumption) ?_
          rotate_left
          · (intro wS hSw; (try dsimp only at hSw); (try go_split_ands); (simp only [List.getElem_toArray, List.getElem_cons_succ, List.getElem_cons_zero]); go_simp <;> (with_reducible rfl))
          try simp only [List.getElem_toArray, List.getElem_cons_succ, List.getElem_cons_zero, Act.put, List.setIfInBounds_toArray, List.set_cons_zero, List.set_cons_succ]
          refine wpAnyH_take (i := 9) (oi := _) (v := undef) rfl (by kernel_rfl) (by kernel_rfl) (by kernel_rfl) (fun _ _ _ h => h) (Or.inr ⟨by rfl, rfl⟩) (by assumption) ?_
          try simp only [List.getElem_toArray, List.getElem_cons_succ, List.getElem_cons_zero, Act.put, List.setIfInBounds_toArray, List.set_cons_zero, List.set_cons_succ]
          refine wpAnyH_take (i := 10) (oi := _) (v := undef) rfl (by kernel_rfl) (by kernel_rfl) (by kernel_rfl) (fun _ _ _ h => h) (Or.inr ⟨by rfl, rfl⟩) (by assumption) ?_
          try simp only [List.getElem_toArray, List.getElem_cons_succ, List.getElem_cons_zero, Act.put, List.setIfInBounds_toArray, List.set_cons_zero, List.set_cons_succ]
          refine wpAnyH_take (i := 11) (oi := _) (v := undef) rfl (by kernel_rfl) (by kernel_rfl) (by kernel_rfl) (fun _ _ _ h => h) (Or.inr ⟨by rfl, rfl⟩) (by assumption) ?_
          try simp only [List.getElem_toArray, List.getElem_cons_succ, List.getElem_cons_zero, Act.put, List.setIfInBounds_toArray, List.set_cons_zero, List.set_cons_succ]
          refine wpAnyH_take (i := 12) (oi := _) (v := undef) rfl (by kernel_rfl) (by kernel_rfl) (by kernel_rfl) (fun _ _ _ h => h) (Or.inr ⟨by rfl, rfl⟩) (by assumption) ?_
          try simp only [List.getElem_toArray, List.getElem_cons_succ, List.getElem_cons_zero, Act.put, List.setIfInBounds_toArray, List.set_cons_zero, List.set_cons_succ]
          refine wpAnyH_take (i := 13) (oi := _) (v := undef) rfl (by kernel_rfl) (by kernel_rfl) (by kernel_rfl) (fun _ _ _ h => h) (Or.inr ⟨by rfl, rfl⟩) (by assumption) ?_
          try simp only [List.getElem_toArray, List.getElem_cons_succ, List.getElem_cons_zero, Act.put, List.setIfInBounds_toArray, List.set_cons_zero, List.set_cons_succ]
          refine wpAnyH_take (i := 14) (oi := _) (v := undef) rfl (by kernel_rfl) (by kernel_rfl) (by kernel_rfl) (fun _ _ _ h => h) (Or.inr ⟨by rfl, rfl⟩) (by assumption) ?_
          try simp only [List.getElem_toArray, List.getElem_cons_succ, List.getElem_cons_zero, Act.put, List.setIfInBounds_toArray, List.set_cons_zero, List.set_cons_succ]
          refine wpAnyH_take (i := 15) (oi := _) (v := undef) rfl (by kernel_rfl) (by kernel_rfl) (by kernel_rfl) (fun _ _ _ h => h) (Or.inr ⟨by rfl, rfl⟩) (by assumption) ?_
          try simp only [List.getElem_toArray, List.getElem_cons_succ, List.getElem_cons_zero, Act.put, List.setIfInBounds_toArray, List.set_cons_zero, List.set_cons_succ]
          refine wpAnyH_take (i := 16) (oi := _) (v := undef) rfl (by kernel_rfl) (by kernel_rfl) (by kernel_rfl) (fun _ _ _ h => h) (Or.inr ⟨by rfl, rfl⟩) (by assumption) ?_
          try simp only [List.getElem_toArray, List.getElem_cons_succ, List.getElem_cons_zero, Act.put, List.setIfInBounds_toArray, List.set_cons_zero, List.set_cons_succ]
          refine wpAnyH_take (i := 17) (oi := _) (v := undef) rfl (by kernel_rfl) (by kernel_rfl) (by kernel_rfl) (fun _ _ _ h => h) (Or.inr ⟨by rfl, rfl⟩) (by assumption) ?_
          try simp only [List.getElem_toArray, List.getElem_cons_succ, List.getElem_cons_zero, Act.put, List.setIfInBounds_toArray, List.set_cons_zero, List.set_cons_succ]
          refine wpAnyH_take (i := 18) (oi := _) (v := undef) rfl (by kernel_rfl) (by kernel_rfl) (by kernel_rfl) (fun _ _ _ h => h) (Or.inr ⟨by rfl, rfl⟩) (by assumption) ?_
          try simp only [List.getElem_toArray, List.getElem_cons_succ, List.getElem_cons_zero, Act.put, List.setIfInBounds_toArray, List.set_cons_zero, List.set_cons_succ]
          refine wpAnyH_take (i := 19) (oi := _) (v := undef) rfl (by kernel_rfl) (by kernel_rfl) (by kernel_rfl) (fun _ _ _ h => h) (Or.inr ⟨by rfl, rfl⟩) (by assumption) ?_
          try simp only [List.getElem_toArray, List.getElem_cons_succ, List.getElem_cons_zero, Act.put, List.setIfInBounds_toArray, List.set_cons_zero, List.set_cons_succ]
          refine wpAnyH_take (i := 20) (oi := _) (v := ?_) rfl (by kernel_rfl) (by kernel_rfl) (by kernel_rfl) (fun _ _ _ h => h) (Or.inl ⟨by rfl, ?_⟩) (by assumption) ?_
          rotate_left
          · (intro wS hSw; (try dsimp only at hSw); (try go_split_ands); (simp only [List.getElem_toArray, List.getElem_cons_succ, List.getElem_cons_zero]); go_simp <;> (with_reducible rfl))
          try simp only [List.getElem_toArray, List.getElem_cons_succ, List.getElem_cons_zero, Act.put, List.setIfInBounds_toArray, List.set_cons_zero, List.set_cons_succ]
          refine wpAnyH_done (by kernel_rfl) ?_ _
          refine NoPanic.normal ?_
          clear hHeld
          have hxe := hxd.below (hbx)
          have hye := hyd.below (hbx)
          have hbe' := bt2 hbd' (hbx)
          go_wp2_with fail
          refine (hcJ.out _ hxe hye).mono ?_
          rintro e w8 ⟨rfl, hb8⟩
          go_wp2_with fail
          refine (heR.out _ (hxe.below hb8) (hye.below hb8)).mono ?_
          rintro e w9 ⟨rfl, hb9⟩
          go_wp2_with fail
          go_ret
          exact ⟨rfl, bt2 hbe' (bt2 hb8 hb9)⟩
      · have h5' : ¬ ((xs.length : Int) < 5) := by omega
        have h7' : decide ((xs.length : Int) < 5) = false := decide_eq_false h5'
        clear hch
        refine wp_region_noPanic ?_
        refine wp_region_held_drew (S := (fun w' => w'.cell? ⟨w3.heap.size, 0, none⟩ = some (.int .i64 1) ∧ w'.cell? ⟨w3.heap.size, 1, none⟩ = some (.int .i64 m) ∧ w'.cell? ⟨w3.heap.size, 2, none⟩ = some (.string ⟨#[]⟩))) (by kernel_rfl) ?_ (fun hHeld => ?_)
        · exact ⟨cell_on (hbx) c0, cell_on (hbx) c1, cell_on (hbx) c2⟩
        refine wpAnyH_take (i := 0) (oi := _) (v := ?_) rfl (by kernel_rfl) (by kernel_rfl) (by kernel_rfl) (fun _ _ _ h => h) (Or.inl ⟨by rfl, ?_⟩) (by assumption) ?_
        rotate_left
        · (intro wS hSw; (try dsimp only at hSw); (try go_split_ands); (simp only [List.getElem_toArray, List.getElem_cons_succ, List.getElem_cons_zero]); go_simp <;> (with_reducible rfl))
        try simp only [List.getElem_toArray, List.getElem_cons_succ, List.getElem_cons_zero, Act.put, List.setIfInBounds_toArray, List.set_cons_zero, List.set_cons_succ]
        refine wpAnyH_take (i := 1) (oi := _) (v := ?_) rfl (by kernel_rfl) (by kernel_rfl) (by kernel_rfl) (fun _ _ _ h => h) (Or.inl ⟨by rfl, ?_⟩) (by assumption) ?_
        rotate_left
        · (intro wS hSw; (try dsimp only at hSw); (try go_split_ands); (simp only [List.getElem_toArray, List.getElem_cons_succ, List.getElem_cons_zero]); go_simp <;> (with_reducible rfl))
        try simp only [List.getElem_toArray, List.getElem_cons_succ, List.getElem_cons_zero, Act.put, List.setIfInBounds_toArray, List.set_cons_zero, List.set_cons_succ]
        refine wpAnyH_take (i := 2) (oi := _) (v := ?_) rfl (by kernel_rfl) (by kernel_rfl) (by kernel_rfl) (fun _ _ _ h => h) (Or.inl ⟨by rfl, ?_⟩) (by assumption) ?_
        rotate_left
        · (intro wS hSw; (try dsimp only at hSw); (try go_split_ands); (simp only [List.getElem_toArray, List.getElem_cons_succ, List.getElem_cons_zero]); go_simp <;> (with_reducible rfl))
        try simp only [List.getElem_toArray, List.getElem_cons_succ, List.getElem_cons_zero, Act.put, List.setIfInBounds_toArray, List.set_cons_zero, List.set_cons_succ]
        refine wpAnyH_take (i := 3) (oi := _) (v := ?_) rfl (by kernel_rfl) (by kernel_rfl) (by kernel_rfl) (fun _ _ _ h => h) (Or.inl ⟨by rfl, ?_⟩) (by assumption) ?_
        rotate_left
        · (intro wS hSw; (try dsimp only at hSw); (try go_split_ands); (simp only [List.getElem_toArray, List.getElem_cons_succ, List.getElem_cons_zero]); go_simp <;> (with_reducible rfl))
        try simp only [List.getElem_toArray, List.getElem_cons_succ, List.getElem_cons_zero, Act.put, List.setIfInBounds_toArray, List.set_cons_zero, List.set_cons_succ]
        refine wpAnyH_take (i := 4) (oi := _) (v := undef) rfl (by kernel_rfl) (by kernel_rfl) (by kernel_rfl) (fun _ _ _ h => h) (Or.inr ⟨by rfl, rfl⟩) (by assumption) ?_
        try simp only [List.getElem_toArray, List.getElem_cons_succ, List.getElem_cons_zero, Act.put, List.setIfInBounds_toArray, List.set_cons_zero, List.set_cons_succ]
        refine wpAnyH_take (i := 5) (oi := _) (v := undef) rfl (by kernel_rfl) (by kernel_rfl) (by kernel_rfl) (fun _ _ _ h => h) (Or.inr ⟨by rfl, rfl⟩) (by assumption) ?_
        try simp only [List.getElem_toArray, List.getElem_cons_succ, List.getElem_cons_zero, Act.put, List.setIfInBounds_toArray, List.set_cons_zero, List.set_cons_succ]
        refine wpAnyH_take (i := 6) (oi := _) (v := undef) rfl (by kernel_rfl) (by kernel_rfl) (by kernel_rfl) (fun _ _ _ h => h) (Or.inr ⟨by rfl, rfl⟩) (by assumption) ?_
        try simp only [List.getElem_toArray, List.getElem_cons_succ, List.getElem_cons_zero, Act.put, List.setIfInBounds_toArray, List.set_cons_zero, List.set_cons_succ]
        refine wpAnyH_take (i := 7) (oi := _) (v := ?_) rfl (by kernel_rfl) (by kernel_rfl) (by kernel_rfl) (fun _ _ _ h => h) (Or.inl ⟨by rfl, ?_⟩) (by assumption) ?_
        rotate_left
        · (intro wS hSw; (try dsimp only at hSw); (try go_split_ands); (simp only [List.getElem_toArray, List.getElem_cons_succ, List.getElem_cons_zero]); go_simp <;> (with_reducible rfl))
        try simp only [List.getElem_toArray, List.getElem_cons_succ, List.getElem_cons_zero, Act.put, List.setIfInBounds_toArray, List.set_cons_zero, List.set_cons_succ]
        refine wpAnyH_take (i := 8) (oi := _) (v := ?_) rfl (by kernel_rfl) (by kernel_rfl) (by kernel_rfl) (fun _ _ _ h => h) (Or.inl ⟨by rfl, ?_⟩) (by assumption) ?_
        rotate_left
        · (intro wS hSw; (try dsimp only at hSw); (try go_split_ands); (simp only [List.getElem_toArray, List.getElem_cons_succ, List.getElem_cons_zero]); go_simp <;> (with_reducible rfl))
        try simp only [List.getElem_toArray, List.getElem_cons_succ, List.getElem_cons_zero, Act.put, List.setIfInBounds_toArray, List.set_cons_zero, List.set_cons_succ]
        refine wpAnyH_take (i := 9) (oi := _) (v := undef) rfl (by kernel_rfl) (by kernel_rfl) (by kernel_rfl) (fun _ _ _ h => h) (Or.inr ⟨by rfl, rfl⟩) (by assumption) ?_
        try simp only [List.getElem_toArray, List.getElem_cons_succ, List.getElem_cons_zero, Act.put, List.setIfInBounds_toArray, List.set_cons_zero, List.set_cons_succ]
        refine wpAnyH_take (i := 10) (oi := _) (v := undef) rfl (by kernel_rfl) (by kernel_rfl) (by kernel_rfl) (fun _ _ _ h => h) (Or.inr ⟨by rfl, rfl⟩) (by assumption) ?_
        try simp only [List.getElem_toArray, List.getElem_cons_succ, List.getElem_cons_zero, Act.put, List.setIfInBounds_toArray, List.set_cons_zero, List.set_cons_succ]
        refine wpAnyH_take (i := 11) (oi := _) (v := undef) rfl (by kernel_rfl) (by kernel_rfl) (by kernel_rfl) (fun _ _ _ h => h) (Or.inr ⟨by rfl, rfl⟩) (by assumption) ?_
        try simp only [List.getElem_toArray, List.getElem_cons_succ, List.getElem_cons_zero, Act.put, List.setIfInBounds_toArray, List.set_cons_zero, List.set_cons_succ]
        refine wpAnyH_take (i := 12) (oi := _) (v := undef) rfl (by kernel_rfl) (by kernel_rfl) (by kernel_rfl) (fun _ _ _ h => h) (Or.inr ⟨by rfl, rfl⟩) (by assumption) ?_
        try simp only [List.getElem_toArray, List.getElem_cons_succ, List.getElem_cons_zero, Act.put, List.setIfInBounds_toArray, List.set_cons_zero, List.set_cons_succ]
        refine wpAnyH_take (i := 13) (oi := _) (v := undef) rfl (by kernel_rfl) (by kernel_rfl) (by kernel_rfl) (fun _ _ _ h => h) (Or.inr ⟨by rfl, rfl⟩) (by assumption) ?_
        try simp only [List.getElem_toArray, List.getElem_cons_succ, List.getElem_cons_zero, Act.put, List.setIfInBounds_toArray, List.set_cons_zero, List.set_cons_succ]
        refine wpAnyH_take (i := 14) (oi := _) (v := undef) rfl (by kernel_rfl) (by kernel_rfl) (by kernel_rfl) (fun _ _ _ h => h) (Or.inr ⟨by rfl, rfl⟩) (by assumption) ?_
        try simp only [List.getElem_toArray, List.getElem_cons_succ, List.getElem_cons_zero, Act.put, List.setIfInBounds_toArray, List.set_cons_zero, List.set_cons_succ]
        refine wpAnyH_take (i := 15) (oi := _) (v := undef) rfl (by kernel_rfl) (by kernel_rfl) (by kernel_rfl) (fun _ _ _ h => h) (Or.inr ⟨by rfl, rfl⟩) (by assumption) ?_
        try simp only [List.getElem_toArray, List.getElem_cons_succ, List.getElem_cons_zero, Act.put, List.setIfInBounds_toArray, List.set_cons_zero, List.set_cons_succ]
        refine wpAnyH_take (i := 16) (oi := _) (v := undef) rfl (by kernel_rfl) (by kernel_rfl) (by kernel_rfl) (fun _ _ _ h => h) (Or.inr ⟨by rfl, rfl⟩) (by assumption) ?_
        try simp only [List.getElem_toArray, List.getElem_cons_succ, List.getElem_cons_zero, Act.put, List.setIfInBounds_toArray, List.set_cons_zero, List.set_cons_succ]
        refine wpAnyH_take (i := 17) (oi := _) (v := undef) rfl (by kernel_rfl) (by kernel_rfl) (by kernel_rfl) (fun _ _ _ h => h) (Or.inr ⟨by rfl, rfl⟩) (by assumption) ?_
        try simp only [List.getElem_toArray, List.getElem_cons_succ, List.getElem_cons_zero, Act.put, List.setIfInBounds_toArray, List.set_cons_zero, List.set_cons_succ]
        refine wpAnyH_take (i := 18) (oi := _) (v := undef) rfl (by kernel_rfl) (by kernel_rfl) (by kernel_rfl) (fun _ _ _ h => h) (Or.inr ⟨by rfl, rfl⟩) (by assumption) ?_
        try simp only [List.getElem_toArray, List.getElem_cons_succ, List.getElem_cons_zero, Act.put, List.setIfInBounds_toArray, List.set_cons_zero, List.set_cons_succ]
        refine wpAnyH_take (i := 19) (oi := _) (v := undef) rfl (by kernel_rfl) (by kernel_rfl) (by kernel_rfl) (fun _ _ _ h => h) (Or.inr ⟨by rfl, rfl⟩) (by assumption) ?_
        try simp only [List.getElem_toArray, List.getElem_cons_succ, List.getElem_cons_zero, Act.put, List.setIfInBounds_toArray, List.set_cons_zero, List.set_cons_succ]
        refine wpAnyH_take (i := 20) (oi := _) (v := ?_) rfl (by kernel_rfl) (by kernel_rfl) (by kernel_rfl) (fun _ _ _ h => h) (Or.inl ⟨by rfl, ?_⟩) (by assumption) ?_
        rotate_left
        · (intro wS hSw; (try dsimp only at hSw); (try go_split_ands); (simp only [List.getElem_toArray, List.getElem_cons_succ, List.getElem_cons_zero]); go_simp <;> (with_reducible rfl))
        try simp only [List.getElem_toArray, List.getElem_cons_succ, List.getElem_cons_zero, Act.put, List.setIfInBounds_toArray, List.set_cons_zero, List.set_cons_succ]
        refine wpAnyH_done (by kernel_rfl) ?_ _
        refine NoPanic.normal ?_
        clear hHeld
        have hxe := hxd.below (hbx)
        have hye := hyd.below (hbx)
        have hbe' := bt2 hbd' (hbx)
        go_wp2_with fail
        refine (hcJ.out _ hxe hye).mono ?_
        rintro e w8 ⟨rfl, hb8⟩
        go_wp2_with fail
        refine (heR.out _ (hxe.below hb8) (hye.below hb8)).mono ?_
        rintro e w9 ⟨rfl, hb9⟩
        go_wp2_with fail
        go_ret
        exact ⟨rfl, bt2 hbe' (bt2 hb8 hb9)⟩

end Go.Proofs.Ytngmiaglbmkbcaa
