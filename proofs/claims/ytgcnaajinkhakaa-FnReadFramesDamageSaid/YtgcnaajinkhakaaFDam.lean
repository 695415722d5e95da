/-
  The statement about damaged frames. Conditions: the argument reads as a list of bytes.
-/
import Derived.Test.YtgcnaajinkhakaaFLaw
import Derived.Test.YtgcnaajinkhakaaDamage
import Derived.Test.YtgcnaajinkhakaaRow
import Derived.Lib.ConvBytes
import Derived.Laws.IdiomStrings
namespace Go.Proofs.Ytgcnaajinkhakaa
open Go.RowKit
set_option linter.unusedVariables false
set_option linter.unusedSimpArgs false

/-- A text's bytes laid in a row. -/
theorem conv_row (f : ByteArray) (w : World) : ∃ cap W', (convert 9 24 (.string f)).run Try.prog w = .ok (.slice (some ⟨w.heap.size, 0, none⟩) f.size cap) W' ∧ Below w.heap.size w W' ∧ w.heap.size < W'.heap.size ∧
    (∀ j (hj : j < f.data.toList.length), W'.cell? ⟨w.heap.size, j, none⟩ = some (.int .u8 (f.data.toList[j].toNat : Int))) ∧ (∀ j, j < f.size → W'.frozen? ⟨w.heap.size, j, none⟩ = false) := by
  refine ⟨_, _, Lib.run_convert_string_bytes (P := Try.prog) w 9 24 5 f Try.underlying9 Try.underlying24 Try.underlying5, ?_, ?_, ?_, ?_⟩
  · refine ⟨rfl, rfl, rfl, by rw [Lib.bytesWorld_size]; omega, fun j hj => Lib.bytesWorld_at_old _ _ _ _ hj⟩
  · rw [Lib.bytesWorld_size]; omega
  · intro j hj
    rw [Lib.bytesWorld_cell _ _ _ _ (by rw [dat_len] at hj; exact hj), List.getD_eq_getElem?_getD, List.getElem?_eq_getElem hj]
    rfl
  · intro j hj
    have h1 := Lib.bytesWorld_at_new w 5 f
    have h2 := Lib.bytesWorld_cell w 5 f j hj
    unfold World.frozen?
    unfold World.cell? at h2
    simp only [h1] at h2 ⊢
    have h3 : j < (Lib.bytesCells w 5 f).size := by
      rcases Nat.lt_or_ge j (Lib.bytesCells w 5 f).size with h4 | h4
      · exact h4
      · simp [h4] at h2
    simp
    omega

set_option maxHeartbeats 1000000 in
theorem damage_walk (A : Option Addr) (c : Nat) (zs : List Int) (w : World) (h : Bytes w A c zs) :
    Calls Try.prog 4 #[.slice A zs.length c] w fun e w' => e = .returned (.bool true) ∧ Below w.heap.size w w' := by
  have hcap := h.cap
  have hmax := h.max
  by_cases hl : 1048576 < zs.length
  · go_enter Try.func4, Try.ntmps4
    go_wp2
    go_ret
    exact ⟨rfl, Below.refl _ _⟩
  · go_enter Try.func4, Try.ntmps4
    go_wp2_with fail
    refine (drawFrame A c zs _ h).mono ?_
    rintro e w1 ⟨s, rfl, hs, hb1⟩
    by_cases h40 : s.size ≤ 40
    · have hI := ftI s
      have hS := ftS s
      rw [show FT s = frm s by unfold FT; rw [if_pos h40]] at hI hS
      have n0 := frm_ne s
      have n1 := frm_emp s
      have n2 := frm_isE s
      have n3 : ((frm s).toList != (frm s).toList) = false := by rw [bne, beq_self_eq_true]; rfl
      have hz := frm_size s
      have hD : Hid (∀ (d : ByteArray) (k : Nat) (hk : k < s.size + 6) (hF : k < (frm s).data.toList.length), d.data.toList = (frm s).data.toList.set k ((frm s).data.toList[k] + 1) → nx d = none) := fun d k hk hF hd => damaged h40 hk hF hd
      have hI' := hide hI
      have hS' := hide hS
      clear hI hS
      generalize frm s = f at n0 n1 n2 n3 hz hI' hS' hD
      have hz' : f.size ≤ 46 := by omega
      have hz1 : 6 ≤ f.size := by omega
      have hzh := hide hz
      clear hz
      go_wp2_with fail
      refine (hI'.out _ (by omega)).mono ?_
      rintro e w2 ⟨rfl, hb2⟩
      go_wp2_with fail
      refine (hS'.out _ (by omega)).mono ?_
      rintro e w3 ⟨rfl, hb3⟩
      obtain ⟨cap, w4, hrun, hb4, hlt4, hc4, hf4⟩ := conv_row f w3
      have hb4' := bt2 (bt2 (bt2 hb1 hb2) hb3) hb4
      have hc4' := hide hc4
      have hf4' := hide hf4
      have hszw : w.heap.size ≤ w3.heap.size := (bt2 (bt2 hb1 hb2) hb3).size
      clear hb1 hb2 hb3 hb4 hc4 hf4
      obtain ⟨g, hg⟩ : ∃ g, w3.heap.size = g := ⟨_, rfl⟩
      rw [hg] at hrun hc4' hf4' hlt4
      obtain ⟨k, hk⟩ : ∃ k, zs.length % f.size = k := ⟨_, rfl⟩
      have hkl : k < f.size := by rw [← hk]; exact Nat.mod_lt _ (by omega)
      have hkF : k < f.data.toList.length := by rw [dat_len]; exact hkl
      obtain ⟨x, hx⟩ : ∃ x : UInt8, f.data.toList[k] = x := ⟨_, rfl⟩
      obtain ⟨n, hn⟩ : ∃ n : Nat, x.toNat = n := ⟨_, rfl⟩
      have hn256 : n < 256 := by rw [← hn]; exact x.toNat_lt
      have ck : w4.cell? ⟨g, k, none⟩ = some (.int .u8 (n : Int)) := by have := hc4'.out k hkF; rw [hx, hn] at this; exact this
      have fk := hf4'.out k hkl
      have km : (zs.length : Int) % (f.size : Int) = (k : Int) := by rw [← hk]; rfl
      have hgw : w.heap.size ≤ g := by rw [← hg]; exact hszw
      have hback : (convert 24 9 (.slice (some ⟨g, 0, none⟩) f.size cap)).run Try.prog (w4.setCell ⟨g, k, none⟩ (.int .u8 (((n : Int) + 1) % 256))) = .ok (.string ⟨(f.data.toList.set k (x + 1)).toArray⟩) (w4.setCell ⟨g, k, none⟩ (.int .u8 (((n : Int) + 1) % 256))) := by
        have hlen : (f.data.toList.set k (x + 1)).length = f.size := by rw [List.length_set, dat_len]
        have := run_convert_bytes_back (P := Try.prog) (w4.setCell ⟨g, k, none⟩ (.int .u8 (((n : Int) + 1) % 256))) 24 9 5 ⟨g, 0, none⟩ cap (f.data.toList.set k (x + 1)) Try.underlying24 Try.underlying5 Try.underlying9 (fun j hj => by
          rw [add_off, Nat.zero_add]
          by_cases hjk : j = k
          · subst hjk
            rw [World.cell?_setCell_same' _ _ _ (by rw [ck]; rfl), List.getElem_set_self, UInt8.toNat_add, hn]
            simp
          · rw [World.cell?_setCell_other _ _ _ _ (by first | (simp; done) | (simp; omega)), List.getElem_set_ne (by omega)]
            exact hc4'.out j _)
        rw [hlen] at this
        exact this
      have hnx : Hid (nx ⟨(f.data.toList.set k (x + 1)).toArray⟩ = none) := hD.out _ k (by have := hzh.out; omega) hkF (by rw [hx])
      have hds : (⟨(f.data.toList.set k (x + 1)).toArray⟩ : ByteArray).size ≤ 600 := by
        rw [← dat_len]
        simp
        omega
      generalize (⟨(f.data.toList.set k (x + 1)).toArray⟩ : ByteArray) = d at hback hnx hds
      have hR : Hid (∀ W, Calls Try.prog 16 #[.string d] W (Opened [] 0 W)) := fun W => by
        have := (readI d W (by omega)).mono fun e w' h => texts_open h
        rw [show TX d = [] by unfold TX; rw [RF_none hnx.out]; simp, show TN d = 0 by unfold TN; rw [RF_none hnx.out, if_pos hds]; rfl] at this
        exact this
      clear hk hg hc4' hf4' hx hn
      go_wp2_with fail
      refine (hR.out _).mono ?_
      rintro e w5 ⟨A5, c5, rfl, hb5, -⟩
      go_wp2_with fail
      go_ret
      exact ⟨rfl, bt (hb4'.setCell (by exact hgw) _) hb5 (by have := hb4'.size; simp; omega)⟩
    · have hI := ftI s
      have hS := ftS s
      rw [ftI_long (by omega)] at hI hS
      have hI' := hide hI
      have hS' := hide hS
      clear hI hS
      go_wp2_with fail
      refine (hI'.out _ (by omega)).mono ?_
      rintro e w2 ⟨rfl, hb2⟩
      go_wp2_with fail
      refine (hS'.out _ (by omega)).mono ?_
      rintro e w3 ⟨rfl, hb3⟩
      go_wp2_with fail
      refine (hS'.out _ (by omega)).mono ?_
      rintro e w4 ⟨rfl, hb4⟩
      go_wp2_with fail
      go_ret
      exact ⟨rfl, bt2 (bt2 (bt2 hb1 hb2) hb3) hb4⟩

end Go.Proofs.Ytgcnaajinkhakaa
