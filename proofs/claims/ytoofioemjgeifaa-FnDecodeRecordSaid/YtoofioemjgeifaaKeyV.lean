/-
  decodeValue of the program: the value with which a text begins, if one does. Conditions: the text is not empty.
-/
import Derived.Test.YtoofioemjgeifaaKeyI
namespace Go.Proofs.Ytoofioemjgeifaa
open Go.RowKit
set_option linter.unusedVariables false
set_option linter.unusedSimpArgs false

def DV (s : ByteArray) (w : World) (e : Ending) (w' : World) : Prop :=
  Below w.heap.size w w' ∧ ∃ (v : Vl) (n : Int) (ok : Bool), e = .returned (.tuple #[.agg #[.int .i64 v.k, .int .i64 v.n, .string v.s], .int .i64 n, .bool ok]) ∧ (ok = true → ∃ m : Nat, n = m ∧ IsV s v m) ∧ (ok = false → NoV s)

set_option maxHeartbeats 1000000 in
theorem dvI (s : ByteArray) (w : World) (h0 : 0 < s.size) (hm : s.size ≤ 9223372036854775807) :
    Calls Try.prog 47 #[.string s] w (DV s w) := by
  obtain ⟨c, hc⟩ : ∃ c : Int, (s[0].toNat : Int) = c := ⟨_, rfl⟩
  have hz : (0 : Int) < (s.size : Int) := by omega
  by_cases c97 : c = 97
  · have hV := hide (dec_none h0 (hc.trans c97))
    subst c97
    go_enter Try.func47, Try.ntmps47
    go_wp2_with fail
    refine bodyPost_ret (v := .tuple #[.agg #[.int .i64 0, .int .i64 0, .string ByteArray.empty], .int .i64 1, .bool true]) (by simp [results, Try.f47, go_sem] <;> rfl) rfl ?_
    exact ⟨by go_grown, ⟨0, 0, ByteArray.empty⟩, 1, true, rfl, fun _ => ⟨1, rfl, hV.out⟩, fun h => by cases h⟩
  · by_cases c98 : c = 98
    · by_cases h5 : s.size < 5
      · have hV := hide (dec_num_short h0 h5 (hc.trans c98))
        have h5' : (s.size : Int) < 5 := by omega
        subst c98
        clear h5
        go_enter Try.func47, Try.ntmps47
        go_wp2_with fail
        refine bodyPost_ret (v := .tuple #[.agg #[.int .i64 0, .int .i64 0, .string ByteArray.empty], .int .i64 0, .bool false]) (by simp [results, Try.f47, go_sem] <;> rfl) rfl ?_
        exact ⟨by go_grown, ⟨0, 0, ByteArray.empty⟩, 0, false, rfl, fun h => (by cases h), fun _ => hV.out⟩
      · have h5' : 5 ≤ s.size := by omega
        have hy := hide (dec_num_yes h5' (hc.trans c98))
        have hn := hide (dec_num_no h5' (hc.trans c98))
        have hd := hide (fun W => dnumI (s.extract 1 5) (s[1].toNat : Int) (s[2].toNat : Int) (s[3].toNat : Int) (s[4].toNat : Int) W (by rw [ByteArray.size_extract]; omega) (by simp [ByteArray.getElem_extract]) (by simp [ByteArray.getElem_extract]) (by simp [ByteArray.getElem_extract]) (by simp [ByteArray.getElem_extract]))
        generalize (s[1].toNat : Int) = x1 at hy hn hd
        generalize (s[2].toNat : Int) = x2 at hy hn hd
        generalize (s[3].toNat : Int) = x3 at hy hn hd
        generalize (s[4].toNat : Int) = x4 at hy hn hd
        have h5z : ¬ ((s.size : Int) < 5) := by omega
        have h5y : (5 : Int) ≤ (s.size : Int) := by omega
        subst c98
        clear h5
        go_enter Try.func47, Try.ntmps47
        go_wp2_with fail
        refine (hd.out _).mono ?_
        rintro e w1 ⟨n, rfl, he, n0, n1, k, rfl⟩
        cases hok : dnOk (x1 - 48) (x2 - 32) (x3 - 32) (x4 - 32)
        · have hV := hide (hn.out hok)
          clear hok he
          go_wp2_with fail
          generalize hF : World.setCell _ _ _ = wF
          have e0 : Blk wF w.heap.size 54 #[.int .i64 1, .int .i64 n, .string ByteArray.empty] := by
            rw [← hF]
            exact blk_set3 (Blk.drewN (Blk.new w 54 #[.int .i64 0, .int .i64 0, .string ByteArray.empty]) k) _ _ _
          have hbF : Below w.heap.size w wF := by
            rw [← hF]
            exact ((Below.setCell (below_drewN ((Below.refl _ w).alloc (Nat.le_refl _) _) k) (Nat.le_refl _) _).setCell (Nat.le_refl _) _).setCell (Nat.le_refl _) _
          clear hF
          have y0 : wF.cell? ⟨w.heap.size, 0, none⟩ = some (.int .i64 1) := e0.cell 0
          have y1 : wF.cell? ⟨w.heap.size, 1, none⟩ = some (.int .i64 n) := e0.cell 1
          have y2 : wF.cell? ⟨w.heap.size, 2, none⟩ = some (.string ByteArray.empty) := e0.cell 2
          refine bodyPost_ret (v := .tuple #[.agg #[.int .i64 1, .int .i64 n, .string ByteArray.empty], .int .i64 5, .bool false]) (by simp [results, Try.f47, go_sem, y0, y1, y2] <;> rfl) rfl ?_
          exact ⟨hbF, ⟨1, n, ByteArray.empty⟩, 5, false, rfl, fun h => (by cases h), fun _ => hV.out⟩
        · have hV := hide (hy.out hok)
          have he' := hide (he hok)
          clear hok he
          go_wp2_with fail
          generalize hF : World.setCell _ _ _ = wF
          have e0 : Blk wF w.heap.size 54 #[.int .i64 1, .int .i64 n, .string ByteArray.empty] := by
            rw [← hF]
            exact blk_set3 (Blk.drewN (Blk.new w 54 #[.int .i64 0, .int .i64 0, .string ByteArray.empty]) k) _ _ _
          have hbF : Below w.heap.size w wF := by
            rw [← hF]
            exact ((Below.setCell (below_drewN ((Below.refl _ w).alloc (Nat.le_refl _) _) k) (Nat.le_refl _) _).setCell (Nat.le_refl _) _).setCell (Nat.le_refl _) _
          clear hF
          have y0 : wF.cell? ⟨w.heap.size, 0, none⟩ = some (.int .i64 1) := e0.cell 0
          have y1 : wF.cell? ⟨w.heap.size, 1, none⟩ = some (.int .i64 n) := e0.cell 1
          have y2 : wF.cell? ⟨w.heap.size, 2, none⟩ = some (.string ByteArray.empty) := e0.cell 2
          refine bodyPost_ret (v := .tuple #[.agg #[.int .i64 1, .int .i64 n, .string ByteArray.empty], .int .i64 5, .bool true]) (by simp [results, Try.f47, go_sem, y0, y1, y2] <;> rfl) rfl ?_
          exact ⟨hbF, ⟨1, n, ByteArray.empty⟩, 5, true, rfl, fun _ => ⟨5, rfl, by rw [he'.out]; exact hV.out⟩, fun h => (by cases h)⟩
    · by_cases c99 : c = 99
      · have hc' := hc.trans c99
        subst c99
        go_enter Try.func47, Try.ntmps47
        go_wp2_with fail
        refine (sIndex s _).mono ?_
        rintro e w1 ⟨z, rfl, hx, rfl⟩
        rcases hx with ⟨rfl, h1⟩ | ⟨n, p, q, rfl, hn, hpq, h1⟩
        · have hV := hide (dec_text_none h0 hc' h1)
          go_wp2_with fail
          refine bodyPost_ret (v := .tuple #[.agg #[.int .i64 0, .int .i64 0, .string ByteArray.empty], .int .i64 0, .bool false]) (by simp [results, Try.f47, go_sem] <;> rfl) rfl ?_
          exact ⟨by go_grown, ⟨0, 0, ByteArray.empty⟩, 0, false, rfl, fun h => (by cases h), fun _ => hV.out⟩
        · obtain ⟨l1, l2, l3⟩ := split99 h0 hc' hn hpq h1
          have hy := hide (dec_text_yes h0 hc' hn hpq h1)
          have hno := hide (dec_text_no h0 hc' hn hpq h1)
          have hsz : (s.extract 1 n).size ≤ 9223372036854775807 := by rw [ByteArray.size_extract]; omega
          have hvt := hide (fun W => vtI (s.extract 1 n) W hsz)
          have g1 : ¬ ((n : Int) < 0) := by omega
          have g2 : (1 : Int) ≤ (n : Int) := by omega
          have g3 : (n : Int) ≤ (s.size : Int) := by omega
          clear l3 hn hpq h1 hc'
          go_wp2_with fail
          refine (hvt.out _).mono ?_
          rintro e w1 ⟨rfl, rfl⟩
          cases hv : vtB (s.extract 1 n)
          · have hV := hide (hno.out hv)
            go_wp2_with fail
            refine bodyPost_ret (v := .tuple #[.agg #[.int .i64 0, .int .i64 0, .string ByteArray.empty], .int .i64 0, .bool false]) (by simp [results, Try.f47, go_sem] <;> rfl) rfl ?_
            exact ⟨by go_grown, ⟨0, 0, ByteArray.empty⟩, 0, false, rfl, fun h => (by cases h), fun _ => hV.out⟩
          · have hV := hide (hy.out hv)
            go_wp2_with fail
            refine bodyPost_ret (v := .tuple #[.agg #[.int .i64 2, .int .i64 0, .string (s.extract 1 n)], .int .i64 ((n : Int) + 1), .bool true]) (by simp [results, Try.f47, go_sem] <;> rfl) rfl ?_
            exact ⟨by go_grown, ⟨2, 0, s.extract 1 n⟩, (n : Int) + 1, true, rfl, fun _ => ⟨n + 1, by omega, hV.out⟩, fun h => (by cases h)⟩
      · have hV := hide (dec_other h0 (by rw [hc]; exact c97) (by rw [hc]; exact c98) (by rw [hc]; exact c99))
        have n1 : (c == 97) = false := by rw [beq_eq_false_iff_ne]; exact c97
        have n2 : (c == 98) = false := by rw [beq_eq_false_iff_ne]; exact c98
        have n3 : (c == 99) = false := by rw [beq_eq_false_iff_ne]; exact c99
        clear c97 c98 c99
        go_enter Try.func47, Try.ntmps47
        go_wp2_with fail
        refine bodyPost_ret (v := .tuple #[.agg #[.int .i64 0, .int .i64 0, .string ByteArray.empty], .int .i64 0, .bool false]) (by simp [results, Try.f47, go_sem] <;> rfl) rfl ?_
        exact ⟨by go_grown, ⟨0, 0, ByteArray.empty⟩, 0, false, rfl, fun h => (by cases h), fun _ => hV.out⟩

end Go.Proofs.Ytoofioemjgeifaa
