/-
  The drawing reader of the statements' generator: newReader, pick, one: what each call answers lies in its range, and only the reader's own block has turned. Conditions: the reader's count is not past 2^40; a list to draw from is not empty.
-/
import Derived.Test.YtgabjepoooageaaBase
import Derived.Test.YtgabjepoooageaaChecked
import Derived.BigQuiet
import Derived.Deep.QuietTactic
import Derived.Outline
namespace Go.Proofs.Ytgabjepoooageaa
open Go.RowKit
set_option linter.unusedVariables false
set_option linter.unusedSimpArgs false


/-- Block R (from B on) holds a reader whose count is at most N; its bytes lie below B. -/
def Rdr (w : World) (B R N : Nat) : Prop :=
  ∃ (p : Nat) (A : Option Addr) (c : Nat) (zs : List Int), Blk w R 73 #[.slice A zs.length c, .int .i64 p] ∧ p ≤ N ∧ zs.length ≤ 2000 ∧ (∀ z ∈ zs, 0 ≤ z ∧ z ≤ 255) ∧ Rl encB 1 w A zs ∧ (∀ b, zs ≠ [] → A.map (·.block) = some b → b < B) ∧ B ≤ R

section
variable {w w' : World} {B R N : Nat}
theorem Rdr.mono {M : Nat} (h : Rdr w B R N) (hM : N ≤ M) : Rdr w B R M := by
  obtain ⟨p, A, c, zs, h1, h2, h3⟩ := h
  exact ⟨p, A, c, zs, h1, by omega, h3⟩
theorem Rdr.lt (h : Rdr w B R N) : R < w.heap.size := by
  obtain ⟨p, A, c, zs, h1, _⟩ := h
  exact h1.lt
theorem Rdr.ge (h : Rdr w B R N) : B ≤ R := by
  obtain ⟨p, A, c, zs, h1, _, _, _, _, _, h7⟩ := h
  exact h7
theorem Rdr.kept {row : Option Nat} (h : Rdr w B R N) (hb : w.grownBy w' row) (hR : ∀ g, row = some g → B ≤ g ∧ g ≠ R) : Rdr w' B R N := by
  obtain ⟨p, A, c, zs, h1, h2, h3, h4, h5, h6, h7⟩ := h
  refine ⟨p, A, c, zs, h1.kept hb (fun e => (hR _ e.symm).2 rfl), h2, h3, h4, ?_, h6, h7⟩
  by_cases hz : zs = []
  · exact .inl hz
  · exact h5.kept hb (fun g e hg => by have := h6 g hz hg; have := hR g e; omega)
theorem Rdr.below (h : Rdr w B R N) (hb : Below w.heap.size w w') : Rdr w' B R N := h.kept (grown_below hb none) (fun g e => by cases e)
theorem Rdr.alloc (h : Rdr w B R N) (o : Obj) : Rdr (w.alloc o) B R N := h.kept (w.grownBy_alloc o none) (fun g e => by cases e)
theorem Rdr.drew (h : Rdr w B R N) : Rdr w.drew B R N := h
theorem Rdr.drewN (h : Rdr w B R N) (n : Nat) : Rdr (w.drewN n) B R N := h
end

def Picked (B R N : Nat) (n : Int) (w : World) (e : Ending) (w' : World) : Prop :=
  ∃ v : Int, e = .returned (.int .i64 v) ∧ 0 ≤ v ∧ v < max n 1 ∧ Rdr w' B R (N + 1) ∧ w.grownBy w' (some R)

theorem mod_rng {x n : Int} (h1 : 1 ≤ n) : 0 ≤ x % n ∧ x % n < n := by
  exact ⟨Int.emod_nonneg _ (by omega), Int.emod_lt_of_pos _ (by omega)⟩

/-- Behind the count's step the reader is a reader again. -/
theorem rdr_step {w : World} {B R N p c : Nat} {A : Option Addr} {zs : List Int} (h1 : Blk w R 73 #[.slice A zs.length c, .int .i64 p]) (h2 : p ≤ N) (h3 : zs.length ≤ 2000) (h4 : ∀ z ∈ zs, 0 ≤ z ∧ z ≤ 255) (h5 : Rl encB 1 w A zs) (h6 : ∀ b, zs ≠ [] → A.map (·.block) = some b → b < B) (h7 : B ≤ R) :
    Rdr (w.setCell ⟨R, 1, none⟩ (.int .i64 ((p : Int) + 1))) B R (N + 1) := by
  refine ⟨p + 1, A, c, zs, ?_, by omega, h3, h4, ?_, h6, h7⟩
  · have := h1.set 1 (.int .i64 ((p : Int) + 1))
    simpa using this
  · by_cases hz : zs = []
    · exact .inl hz
    · exact h5.keep fun b o u hb hc => (World.cell?_setCell_other _ _ _ _ (by rintro e; cases e; have := h6 _ hz hb; omega)).trans hc
theorem grown_step (w : World) (R : Nat) (u : Value) : w.grownBy (w.setCell ⟨R, 1, none⟩ u) (some R) := grown_set (World.grownBy.refl w _) (.inl rfl) u

theorem xor_nonneg (a b : Int) (ha : 0 ≤ a) (hb : 0 ≤ b) (ha' : a < 9223372036854775808) (hb' : b < 9223372036854775808) : 0 ≤ bits .xor .i64 a b := by
  obtain ⟨a, rfl⟩ := Int.eq_ofNat_of_zero_le ha
  obtain ⟨b, rfl⟩ := Int.eq_ofNat_of_zero_le hb
  have hx : a ^^^ b < 2 ^ 63 := Nat.xor_lt_two_pow (by omega) (by omega)
  show 0 ≤ IntKind.i64.wrap ((BitVec.ofInt 64 (a : Int) ^^^ BitVec.ofInt 64 (b : Int)).toNat : Int)
  rw [BitVec.toNat_xor, BitVec.ofInt_natCast, BitVec.ofInt_natCast, BitVec.toNat_ofNat, BitVec.toNat_ofNat, Nat.mod_eq_of_lt (show a < 2 ^ 64 by omega), Nat.mod_eq_of_lt (show b < 2 ^ 64 by omega), IntKind.wrap_i64]
  omega
theorem tmod_rng {x n : Int} (h0 : 0 ≤ x) (h1 : 1 ≤ n) : 0 ≤ x.tmod n ∧ x.tmod n < n := by
  rw [Int.tmod_eq_emod_of_nonneg h0]
  exact mod_rng h1
/-- The mixture's last step: whatever was mixed out of small numbers lies in the range. -/
theorem mix_rng {x n : Int} (h0 : 0 ≤ x) (h1 : x < 9223372036854775808) (hn : 1 ≤ n) : 0 ≤ (bits .xor .i64 x (x / 64)).tmod n ∧ (bits .xor .i64 x (x / 64)).tmod n < max n 1 := by
  have := tmod_rng (n := n) (xor_nonneg x (x / 64) h0 (by omega) h1 (by omega)) hn
  exact ⟨this.1, by omega⟩

set_option maxHeartbeats 1000000 in
theorem pick_any (B R N : Nat) (n : Int) (w : World) (h : Rdr w B R N) (hN : N ≤ 1099511627776) (hn0 : -9223372036854775808 ≤ n) (hn1 : n ≤ 9223372036854775807) :
    Calls Try.prog 55 #[.pointer (some ⟨R, 0, none⟩), .int .i64 n] w (Picked B R N n w) := by
  obtain ⟨p, A, c, zs, h1, h2, h3, h4, h5, h6, h7⟩ := h
  have c0 : w.cell? ⟨R, 0, none⟩ = some (.slice A zs.length c) := (h1.cell 0).trans rfl
  have c1 : w.cell? ⟨R, 1, none⟩ = some (.int .i64 p) := (h1.cell 1).trans rfl
  have f1 : w.frozen? ⟨R, 1, none⟩ = false := h1.free 1
  have fin : ∀ v : Int, 0 ≤ v → v < max n 1 → Picked B R N n w (.returned (.int .i64 v)) (w.setCell ⟨R, 1, none⟩ (.int .i64 ((p : Int) + 1))) := fun v a b =>
    ⟨v, rfl, a, b, rdr_step h1 h2 h3 h4 h5 h6 h7, grown_step _ _ _⟩
  by_cases hn : n < 1
  · go_enter Try.func55, Try.ntmps55
    go_wp2
    go_ret
    exact fin 0 (by omega) (by omega)
  · by_cases h0 : zs.length = 0
    · have H0 := hide h0
      have h0' : ((zs.length : Int) == 0) = true := by simp [h0]
      clear h0
      go_enter Try.func55, Try.ntmps55
      go_wp2
      go_ret
      exact fin 0 (by omega) (by omega)
    · have h0' : ((zs.length : Int) == 0) = false := by simp; intro e; exact h0 (by simp [e])
      have hzp : 0 < zs.length := by omega
      by_cases hp : p < zs.length
      · obtain ⟨b, off, rfl, hc⟩ := h5.at hp
        have hb : b ≠ R := by have := h6 b (by rintro rfl; simp at hzp) rfl; omega
        have cz : w.cell? ⟨b, off + p, none⟩ = some (.int .u8 zs[p]) := by simpa using hc 0 (.int .u8 zs[p]) (by simp [encB])
        have hz := h4 zs[p] (List.getElem_mem hp)
        have hm := mod_rng (x := zs[p]) (n := n) (by omega)
        go_enter Try.func55, Try.ntmps55
        go_wp2
        go_ret
        exact fin _ hm.1 (by omega)
      · have hk1 : p % zs.length < zs.length := Nat.mod_lt _ hzp
        have hk2 : (p * 7 + 3) % zs.length < zs.length := Nat.mod_lt _ hzp
        obtain ⟨b, off, rfl, hc⟩ := h5.at hzp
        have hb : b ≠ R := by have := h6 b (by rintro rfl; simp at hzp) rfl; omega
        have hall : ∀ k : Nat, k < zs.length → w.cell? ⟨b, off + k, none⟩ = some (.int .u8 (zs[k]?.getD 0)) := by
          intro k hk
          rcases h5 with h | ⟨b', off', e, h⟩
          · simp [h] at hk
          · obtain ⟨rfl, rfl⟩ : b = b' ∧ off = off' := by simpa using e
            have := h k zs[k] (List.getElem?_eq_getElem hk) 0 (.int .u8 zs[k]) (by simp [encB])
            simpa [hk] using this
        have hrng : ∀ k : Nat, 0 ≤ zs[k]?.getD 0 ∧ zs[k]?.getD 0 ≤ 255 := by
          intro k
          rcases Nat.lt_or_ge k zs.length with hk | hk
          · rw [List.getElem?_eq_getElem hk]; exact h4 _ (List.getElem_mem hk)
          · rw [List.getElem?_eq_none hk]; exact ⟨by simp, by simp⟩
        obtain ⟨k1, e1, hk1⟩ : ∃ k : Nat, (p : Int) % (zs.length : Int) = (k : Int) ∧ k < zs.length := ⟨p % zs.length, by simp, hk1⟩
        obtain ⟨k2, e2, hk2⟩ : ∃ k : Nat, ((p : Int) * 7 + 3) % (zs.length : Int) = (k : Int) ∧ k < zs.length := ⟨(p * 7 + 3) % zs.length, by simp, hk2⟩
        have z1 := hall _ hk1
        have z2 := hall _ hk2
        have r1 := hrng k1
        have r2 := hrng k2
        clear hall hrng hc
        generalize zs[k1]?.getD 0 = x1 at z1 r1
        generalize zs[k2]?.getD 0 = x2 at z2 r2
        have t1 : (p : Int).tmod (zs.length : Int) = (k1 : Int) := by rw [Int.tmod_eq_emod_of_nonneg (by omega)]; exact e1
        have t2 : ((p : Int) * 7 + 3).tmod (zs.length : Int) = (k2 : Int) := by rw [Int.tmod_eq_emod_of_nonneg (by omega)]; exact e2
        obtain ⟨q, e3, hq⟩ : ∃ q : Nat, (p : Int) / (zs.length : Int) = (q : Int) ∧ q ≤ p := ⟨p / zs.length, by simp, Nat.div_le_self _ _⟩
        go_enter Try.func55, Try.ntmps55
        go_wp2
        go_quiet (fail)
        go_wp2
        go_ret
        have hm := mix_rng (x := x1 * 131 + x2 * 1117 + p * 29 + q * 53) (n := n) (by omega) (by omega) (by omega)
        obtain ⟨v, a, b, c, d, e⟩ := fin _ hm.1 hm.2
        exact ⟨v, a, b, c, d.drewN _, grown_drewN e _⟩

/-- A list of numbers to draw from. -/
def Drawn (B R N : Nat) (zs : List Int) (w : World) (e : Ending) (w' : World) : Prop :=
  ∃ v : Int, e = .returned (.int .i64 v) ∧ v ∈ zs ∧ Rdr w' B R (N + 1) ∧ w.grownBy w' (some R)

theorem one_any (B R N g c : Nat) (zs : List Int) (w : World) (h : Rdr w B R N) (hN : N ≤ 1099511627776) (hz : Rl encI 1 w (some ⟨g, 0, none⟩) zs) (h0 : 0 < zs.length) (hm : zs.length ≤ 1000000) (hg : g ≠ R) :
    Calls Try.prog 48 #[.pointer (some ⟨R, 0, none⟩), .slice (some ⟨g, 0, none⟩) zs.length c] w (Drawn B R N zs w) := by
  go_enter Try.func48, Try.ntmps48
  go_wp2_with fail
  refine (pick_any B R N _ w h hN (by omega) (by omega)).mono ?_
  rintro e w' ⟨v, rfl, v0, v1, hr, hgr⟩
  obtain ⟨k, rfl⟩ := Int.eq_ofNat_of_zero_le v0
  have hk : k < zs.length := by omega
  obtain ⟨b, off, hA, hc⟩ := (hz.kept hgr (fun g' e => by cases e; simp; exact hg)).at hk
  obtain ⟨rfl, rfl⟩ : g = b ∧ 0 = off := by simpa using hA
  have ck : w'.cell? ⟨g, k, none⟩ = some (.int .i64 zs[k]) := by simpa using hc 0 (.int .i64 zs[k]) (by simp [encI])
  have hin : zs[k] ∈ zs := List.getElem_mem hk
  clear hc v1
  go_wp2
  go_ret
  exact ⟨_, rfl, hin, hr, hgr⟩

def Read0 (w : World) (e : Ending) (w' : World) : Prop :=
  e = .returned (.pointer (some ⟨w.heap.size, 0, none⟩)) ∧ Rdr w' w.heap.size w.heap.size 0 ∧ Below w.heap.size w w'

theorem new_any (A : Option Addr) (c : Nat) (zs : List Int) (w : World) (hz : Rl encB 1 w A zs) (hr : ∀ z ∈ zs, 0 ≤ z ∧ z ≤ 255) (hc : zs.length ≤ c) (hm : c ≤ 9223372036854775807) (hB : ∀ b, zs ≠ [] → A.map (·.block) = some b → b < w.heap.size) :
    Calls Try.prog 47 #[.slice A zs.length c] w (Read0 w) := by
  have fin : ∀ (zs' : List Int), zs'.length ≤ 2000 → (∀ z ∈ zs', 0 ≤ z ∧ z ≤ 255) → Rl encB 1 w A zs' → (zs' ≠ [] → zs ≠ []) →
      Read0 w (.returned (.pointer (some ⟨w.heap.size, 0, none⟩))) (w.alloc (.cells #[.slice A zs'.length c, .int .i64 0] 73)) := fun zs' a b d e =>
    ⟨rfl, ⟨0, A, c, zs', Blk.new _ _ _, Nat.le_refl _, a, b, d.alloc _, fun b' h => hB b' (e h), Nat.le_refl _⟩, (Below.refl _ _).alloc (Nat.le_refl _) _⟩
  by_cases hl : zs.length ≤ 2000
  · go_enter Try.func47, Try.ntmps47
    go_wp2
    go_ret
    exact fin zs hl hr hz id
  · obtain ⟨b, off, rfl, _⟩ := hz.at (k := 0) (by omega)
    have hf := fin (zs.take 2000) (by simp; omega) (fun z h => hr z (List.mem_of_mem_take h)) (hz.take _) (by rintro h rfl; simp at h)
    rw [show (zs.take 2000).length = 2000 by simp; omega] at hf
    go_enter Try.func47, Try.ntmps47
    go_wp2
    go_ret
    exact hf

end Go.Proofs.Ytgabjepoooageaa
