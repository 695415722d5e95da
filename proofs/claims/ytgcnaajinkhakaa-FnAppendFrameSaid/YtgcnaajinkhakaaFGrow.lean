/-
  The statement that logs grow at their end. Conditions: the argument reads as a list of bytes.
-/
import Derived.Test.YtgcnaajinkhakaaFApp
namespace Go.Proofs.Ytgcnaajinkhakaa
open Go.RowKit
set_option linter.unusedVariables false
set_option linter.unusedSimpArgs false

/-- 'append' of a slice that reads as a list, nil let in, onto a row of the call's own. -/
theorem app_txt (w : World) (base : Nat) (v : Value) (n : Nat) (xs : List Value) (hown : w.ownsRow base 9 1 v n xs) (A : Option Addr) (c : Nat) (ys : List ByteArray) (hr : Rl encS 1 w A ys) (hn : n + ys.length ≤ 10000) (hbase : base ≤ w.heap.size) :
    ∃ v' w', (Builtin.append_ #[26, 26] 26 #[v, .slice A ys.length c]).run Try.prog w = .ok v' w' ∧ w'.ownsRow base 9 1 v' (n + ys.length) (xs ++ ys.map .string) ∧ w.grownBy w' v.ownBlock := by
  obtain ⟨i0, hi, hz0, hz1, hz2⟩ := info_parts infoS
  cases A with
  | none =>
    have hy : ys = [] := by
      rcases hr with h | ⟨b, off, h, _⟩
      · exact h
      · cases h
    subst hy
    refine ⟨v, w, ?_, by simpa using hown, World.grownBy.refl _ _⟩
    rcases hown.2 with ⟨rfl, rfl⟩ | ⟨g, cap, cur, rfl, _, _, hnc, _⟩
    · simp [Builtin.append_, run_underlying (P := Try.prog) Try.underlying26, sizeOf, typeInfo, hi, Builtin.lenOf, Builtin.firstCells]
    · simp [Builtin.append_, run_underlying (P := Try.prog) Try.underlying26, sizeOf, typeInfo, hi, Builtin.lenOf, Builtin.firstCells, hnc, storeCells]
  | some ad =>
    obtain ⟨v', w', h1, h2, h3, _⟩ := run_append_own (P := Try.prog) w base 26 26 9 i0 (.string ByteArray.empty) 1 16 Try.underlying26 hi hz0 hz1 hz2 rfl (by decide) v n xs hown ad ys.length c (ys.map .string) (by simp) (fun j u hu => by
      rw [List.getElem?_map] at hu
      cases hj : ys[j]? with
      | none => rw [hj] at hu; cases hu
      | some y =>
        rw [hj] at hu
        cases hu
        obtain ⟨hjl, rfl⟩ := List.getElem?_eq_some_iff.1 hj
        obtain ⟨b, off, he, hc⟩ := encS_at hr hjl
        cases he
        rw [add_off]
        exact hc) (fun u hu => by obtain ⟨y, _, rfl⟩ := List.mem_map.1 hu; rfl) (by unfold maxLen; omega) (by omega) hbase
    exact ⟨v', w', h1, h2, h3⟩

/-- The same met in a walk. -/
theorem wp_txt {o : Oper} {a : Act} {K : Act → World → Prop} {Q : Exit → Act → World → Prop} {w w' : World} (s x : Operand) (ho : o.op = .call { callee := .builtin .append, args := #[s, x], argTypes := #[26, 26] })
    (hty : o.type = 26) {v v' : Value} {A : Option Addr} {m c : Nat} (hs : a.eval s = v) (hx : a.eval x = .slice A m c) (hrun : (Builtin.append_ #[26, 26] 26 #[v, .slice A m c]).run Try.prog w = .ok v' w')
    (h : K (a.put o.dst v') w') : o.wp Try.prog a w K Q := by
  unfold Oper.wp execOp
  simp only [ho, hty, resolve, invoke, builtin, Sem.run_bind, Sem.run_pure, Result.andThen_ok, List.map_toArray, List.map_cons, List.map_nil, hs, hx, hrun]
  exact h

set_option maxHeartbeats 1000000 in
theorem grow_walk (A : Option Addr) (c : Nat) (zs : List Int) (w : World) (h : Bytes w A c zs) :
    Calls Try.prog 12 #[.slice A zs.length c] w fun e w' => e = .returned (.bool true) ∧ Below w.heap.size w w' := by
  have hcap := h.cap
  have hmax := h.max
  by_cases hl : 1048576 < zs.length
  · go_enter Try.func12, Try.ntmps12
    go_wp2
    go_ret
    exact ⟨rfl, Below.refl _ _⟩
  · go_enter Try.func12, Try.ntmps12
    go_wp2_with fail
    refine (drawApp A c zs _ h).mono ?_
    rintro e w1 ⟨s, t, rfl, hs, ht, hb1⟩
    have h6 : s.size ≤ 600 := by omega
    have hz := CL_size s h6
    have hle := lnF_le s
    have hf := frm_size t
    by_cases h40 : t.size ≤ 40
    · have hI : Hid (∀ W, Calls Try.prog 21 #[.string s, .string t] W fun e w' => e = .returned (.tuple #[.string (CL s ++ frm t), .bool true]) ∧ Below W.heap.size W w') := fun W => by
        have := appI s t W (by omega) (by omega)
        rw [AF_yes ⟨h6, h40, by omega⟩] at this
        exact this
      have hS : Hid (∀ W, Calls Try.prog 20 #[.string s, .string t] W fun e w' => e = .returned (.tuple #[.string (CL s ++ frm t), .bool true]) ∧ Below W.heap.size W w') := fun W => by
        have := appS s t W (by omega) (by omega)
        rw [AF_yes ⟨h6, h40, by omega⟩] at this
        exact this
      have hsz : (CL s ++ frm t).size = lnF (RF s) + (t.size + 6) := by rw [ByteArray.size_append, hf, hz]
      have hrf : RF (CL s ++ frm t) = RF s ++ [t] := by
        have h1 := RF_frm (x := t) (q := ByteArray.empty) h40
        rw [RF_empty, ByteArray.append_empty] at h1
        rw [RF_CL h6, h1]
      have hR : Hid (∀ W, Calls Try.prog 16 #[.string s] W (Opened (RF s) (lnF (RF s)) W)) := fun W => by
        have := (readI s W (by omega)).mono fun e w' h => texts_open h
        rw [TX_s h6, TN_s h6] at this
        exact this
      have hQ : Hid (∀ W, Calls Try.prog 16 #[.string (CL s ++ frm t)] W (Opened (RF s ++ [t]) ((CL s ++ frm t).size) W)) := fun W => by
        have := (readI (CL s ++ frm t) W (by omega)).mono fun e w' h => texts_open h
        rw [TX_s (by omega), TN_s (by omega), hrf, lnF_app, show lnF [t] = t.size + 6 by simp [lnF], ← hsz] at this
        exact this
      obtain ⟨ys, hys⟩ : ∃ ys, ys = RF s ++ [t] := ⟨_, rfl⟩
      rw [← hys] at hQ
      have hlen := len_lnF (RF s)
      have hszb : (CL s ++ frm t).size ≤ 246 := by omega
      clear hsz hrf hz hf
      generalize CL s ++ frm t = T at hI hS hQ hszb
      generalize RF s = xs at hR hQ hlen hle hys
      have hys' := hide hys
      clear hys
      generalize lnF xs = n at hR hlen hle
      have hxl : xs.length ≤ 100 := by omega
      have n3 : (T.toList != T.toList) = false := by rw [bne, beq_self_eq_true]; rfl
      go_wp2_with fail
      refine (hI.out _).mono ?_
      rintro e w2 ⟨rfl, hb2⟩
      go_wp2_with fail
      refine (hS.out _).mono ?_
      rintro e w3 ⟨rfl, hb3⟩
      go_wp2_with fail
      refine (hR.out _).mono ?_
      rintro e w4 ⟨A4, c4, rfl, hb4, r4, l4, m4, -⟩
      have hb4' := bt2 (bt2 (bt2 hb1 hb2) hb3) hb4
      clear hb1 hb2 hb3 hb4
      go_wp2_with fail
      refine (hQ.out _).mono ?_
      rintro e w5 ⟨A5, c5, rfl, hb5, r5, l5, m5, -⟩
      have hb5' := bt2 hb4' hb5
      have r4' := (r4.below hb5).alloc (.cells #[] 9)
      have r5' := r5.alloc (.cells #[] 9)
      have o0 := own_empty w5 (w5.alloc (.cells #[] 9)) 9 (heap_alloc_new _ _)
      obtain ⟨v1, u1, q1, o1, g1⟩ := app_txt _ _ _ _ _ o0 A4 c4 xs r4' (by omega) (by simp)
      have hge1 : ∀ k, v1.ownBlock = some k → w5.heap.size ≤ k := fun k hk => own_ge o1 hk
      have hB1 : Below w.heap.size w u1 := (hb5'.alloc hb5'.size _).grown g1 (by have := hb5'.size; simp; omega) (fun k e => by cases e; have := hb5'.size; omega)
      have r5a := r5.below ((Below.refl _ w5).alloc (Nat.le_refl _) (.cells #[] 9) |>.grown g1 (by simp) (fun k e => by cases e; exact Nat.le_refl _))
      have hu1 : w5.heap.size ≤ u1.heap.size := by have := g1.size; simp at this; omega
      obtain ⟨v2, u2, q2, o2, g2⟩ := app_txt (u1.alloc (.cells #[.string t] 9)) _ _ _ _ (o1.alloc _) (some ⟨u1.heap.size, 0, none⟩) 1 [t] (lit_S u1 9 t) (by simp; omega) (by simp; omega)
      have hB2 : Below w.heap.size w u2 := (hB1.alloc hB1.size _).grown g2 (by have := hB1.size; simp; omega) (fun k e => by have := hge1 k e; have := hb5'.size; omega)
      have r5b := r5a.alloc (.cells #[.string t] 9)
      have r5c : Rl encS 1 u2 A5 ys := by
        refine r5b.kept g2 (fun k e hk => ?_)
        have h1 := hge1 k e
        obtain ⟨b, off, he, hc⟩ := encS_at r5 (k := 0) (by rw [hys'.out]; simp)
        rw [he] at hk
        simp at hk
        have := cell_lt hc
        omega
      rw [show 0 + xs.length + [t].length = ys.length by rw [hys'.out]; simp, show [] ++ xs.map Value.string ++ [t].map Value.string = ys.map Value.string by rw [hys'.out]; simp] at o2
      obtain ⟨A6, c6, rfl, r6, l6, m6, -⟩ := own_open2 o2
      simp only [List.length_cons, List.length_nil, Nat.zero_add] at q2
      clear o0 o1 g1 g2 r4' r5' r5a r5b o2 hge1 hle hlen r4 r5
      have q1' := hide q1
      have q2' := hide q2
      clear q1 q2
      go_wp2_with (first
        | (at_builtin; go_big_want; refine wp_txt (v := .slice (some ⟨w5.heap.size, 0, none⟩) 0 0) (A := A4) (m := xs.length) (c := c4) (v' := v1) (w' := u1) (.tmp 69) (.tmp 70) rfl rfl rfl rfl q1'.out ?_; clear q1')
        | (at_builtin; go_big_want; refine wp_txt (v := v1) (A := some ⟨u1.heap.size, 0, none⟩) (m := 1) (c := 1) (w' := u2) (.tmp 71) (.tmp 73) rfl rfl rfl rfl q2'.out ?_; clear q2')
        | (go_at_call 17; refine (eqT_any A5 A6 c5 c6 ys _ r5c r6 (by rw [hys'.out]; simp; omega)).mono ?_; rintro e w7 ⟨rfl, hb7⟩))
      go_ret
      exact ⟨rfl, bt2 hB2 hb7⟩
    · have hI : Hid (∀ W, Calls Try.prog 21 #[.string s, .string t] W fun e w' => e = .returned (.tuple #[.string ⟨#[]⟩, .bool false]) ∧ Below W.heap.size W w') := fun W => by
        have := appI s t W (by omega) (by omega)
        rw [AF_no (fun h => h40 h.2.1)] at this
        exact this
      have hS : Hid (∀ W, Calls Try.prog 20 #[.string s, .string t] W fun e w' => e = .returned (.tuple #[.string ⟨#[]⟩, .bool false]) ∧ Below W.heap.size W w') := fun W => by
        have := appS s t W (by omega) (by omega)
        rw [AF_no (fun h => h40 h.2.1)] at this
        exact this
      clear hz hle hf
      go_wp2_with fail
      refine (hI.out _).mono ?_
      rintro e w2 ⟨rfl, hb2⟩
      go_wp2_with fail
      refine (hS.out _).mono ?_
      rintro e w3 ⟨rfl, hb3⟩
      go_wp2_with fail
      go_ret
      exact ⟨rfl, bt2 (bt2 hb1 hb2) hb3⟩

end Go.Proofs.Ytgcnaajinkhakaa
