/-
  Disks in the exact statements: rows of the call's own marked and held, empty ones let in. Conditions: blocks that are known whole.
-/
import Derived.Test.YtgabjepoooageaaMarkD
import Derived.Test.YtgabjepoooageaaWrP
namespace Go.Proofs.Ytgabjepoooageaa
open Go.RowKit
set_option linter.unusedVariables false
set_option linter.unusedSimpArgs false

/-- A row in a block of its own, from B on and below N; or none. -/
def RowX (T size : Nat) (w : World) (B N : Nat) (A : Option Addr) (c n : Nat) : Prop := n = 0 ∨ ∃ g arr, A = some ⟨g, 0, none⟩ ∧ B ≤ g ∧ g < N ∧ Blk w g T arr ∧ arr.size = c * size ∧ n ≤ c
def AtX (T size : Nat) (w : World) (g : Nat) (A : Option Addr) (c n : Nat) : Prop := n = 0 ∨ (A = some ⟨g, 0, none⟩ ∧ n ≤ c ∧ ∃ arr, Blk w g T arr ∧ arr.size = c * size)
section
variable {T size B N c n : Nat} {w w' : World} {A : Option Addr}
theorem RowX.below (h : RowX T size w B N A c n) (hb : Below w.heap.size w w') : RowX T size w' B N A c n := by
  rcases h with h | ⟨g, arr, a, b, d, e, f⟩
  · exact .inl h
  · exact .inr ⟨g, arr, a, b, d, e.below hb, f⟩
theorem RowX.kept2 {g h : Nat} (hx : RowX T size w B N A c n) (k : Kept2 w w' g h) (hg : g < B ∨ N ≤ g) (hh : h < B ∨ N ≤ h) : RowX T size w' B N A c n := by
  rcases hx with hx | ⟨g', arr, a, b, d, e, f⟩
  · exact .inl hx
  · exact .inr ⟨g', arr, a, b, d, k.blk e (by omega) (by omega), f⟩
end
theorem RowX.parts {T size B N c n : Nat} {w : World} {A : Option Addr} (h : RowX T size w B N A c n) : n = 0 ∨ (n ≠ 0 ∧ ∃ g arr, A = some ⟨g, 0, none⟩ ∧ B ≤ g ∧ g < N ∧ Blk w g T arr ∧ arr.size = c * size ∧ n ≤ c) := by
  by_cases h0 : n = 0
  · exact .inl h0
  · exact .inr ⟨h0, h.resolve_left h0⟩
theorem rows_pick {w : World} {B N : Nat} {A A' : Option Addr} {c n d m : Nat} (h1 : RowX 3 1 w B N A c n) (h2 : RowX 41 2 w B N A' d m) (hN : N ≤ w.heap.size) (hB : B ≤ w.heap.size) :
    ∃ g h, g ≠ h ∧ w.heap.size ≠ g ∧ B ≤ g ∧ B ≤ h ∧ (g < N ∨ w.heap.size ≤ g) ∧ (h < N ∨ w.heap.size ≤ h) ∧ AtX 3 1 w g A c n ∧ AtX 41 2 w h A' d m ∧ (n = 0 → w.heap.size ≤ g) ∧ (m = 0 → w.heap.size ≤ h) := by
  rcases h1.parts with h1 | ⟨n0, g, arr, a1, a2, a3, a4, a5, a6⟩
  · rcases h2.parts with h2 | ⟨m0, h, arr', b1, b2, b3, b4, b5, b6⟩
    · exact ⟨w.heap.size + 1, w.heap.size + 2, by omega, by omega, by omega, by omega, by omega, by omega, .inl h1, .inl h2, fun _ => by omega, fun _ => by omega⟩
    · exact ⟨w.heap.size + 1, h, by omega, by omega, by omega, by omega, by omega, by omega, .inl h1, .inr ⟨b1, b6, arr', b4, b5⟩, fun _ => by omega, fun q => absurd q m0⟩
  · rcases h2.parts with h2 | ⟨m0, h, arr', b1, b2, b3, b4, b5, b6⟩
    · exact ⟨g, w.heap.size + 2, by omega, by omega, by omega, by omega, by omega, by omega, .inr ⟨a1, a6, arr, a4, a5⟩, .inl h2, fun q => absurd q n0, fun _ => by omega⟩
    · exact ⟨g, h, Blk.ne a4 b4 (by decide), by omega, by omega, by omega, by omega, by omega, .inr ⟨a1, a6, arr, a4, a5⟩, .inr ⟨b1, b6, arr', b4, b5⟩, fun q => absurd q n0, fun q => absurd q m0⟩

def MkI (g q : Nat) (A : Option Addr) (c n : Nat) (w : World) : Prop := n = 0 ∨ (A = some ⟨g, 0, none⟩ ∧ n ≤ c ∧ Fil g 3 c n ((mki q n).flatMap encD) w)
def MkW (g q : Nat) (A : Option Addr) (c n : Nat) (w : World) : Prop := n = 0 ∨ (A = some ⟨g, 0, none⟩ ∧ n ≤ c ∧ Fil g 41 (c * 2) (n * 2) ((mkw q n).flatMap encW) w)
section
variable {g q c n : Nat} {A : Option Addr} {w w' : World}
theorem MkI.below (h : MkI g q A c n w) (hb : Below w.heap.size w w') : MkI g q A c n w' := by
  rcases h with h | ⟨a, b, d⟩
  · exact .inl h
  · exact .inr ⟨a, b, d.below hb⟩
theorem MkW.below (h : MkW g q A c n w) (hb : Below w.heap.size w w') : MkW g q A c n w' := by
  rcases h with h | ⟨a, b, d⟩
  · exact .inl h
  · exact .inr ⟨a, b, d.below hb⟩
theorem MkI.kept {r : Nat} (h : MkI g q A c n w) (hb : w.grownBy w' (some r)) (hr : g ≠ r) : MkI g q A c n w' := by
  rcases h with h | ⟨a, b, d⟩
  · exact .inl h
  · exact .inr ⟨a, b, d.kept hb (by simp; omega)⟩
theorem AtX.kept {T size r : Nat} (h : AtX T size w g A c n) (hb : w.grownBy w' (some r)) (hr : g ≠ r) : AtX T size w' g A c n := by
  rcases h with h | ⟨a, b, arr, d, e⟩
  · exact .inl h
  · exact .inr ⟨a, b, arr, d.kept hb (by simp; omega), e⟩
theorem AtX.below {T size : Nat} (h : AtX T size w g A c n) (hb : Below w.heap.size w w') : AtX T size w' g A c n := by
  rcases h with h | ⟨a, b, arr, d, e⟩
  · exact .inl h
  · exact .inr ⟨a, b, arr, d.below hb, e⟩
end
theorem markIX (g q : Nat) (A : Option Addr) (c n : Nat) (w : World) (h : AtX 3 1 w g A c n) (hm : q + n ≤ 1000000) :
    Calls Try.prog 56 #[.slice A n c, .int .i64 (q : Int)] w fun e w' => e = .returned (.int .i64 ((q : Int) + n)) ∧ w.grownBy w' (some g) ∧ MkI g q A c n w' := by
  rcases h with rfl | ⟨rfl, hnc, arr, hk, hz⟩
  · refine (markI0 A c _ w).mono ?_
    rintro e w' ⟨rfl, rfl⟩
    exact ⟨ret_int (by simp), World.grownBy.refl _ _, .inl rfl⟩
  · refine (markI_any g n c c q [] w ⟨arr, hk, by omega, fun p u h => absurd h (by omega)⟩ hnc (by omega)).mono ?_
    rintro e w' ⟨rfl, hg, hf⟩
    exact ⟨rfl, hg, .inr ⟨rfl, hnc, hf⟩⟩
theorem markWX (g q : Nat) (A : Option Addr) (c n : Nat) (w : World) (h : AtX 41 2 w g A c n) (hm : q + 2 * n ≤ 1000000) :
    Calls Try.prog 57 #[.slice A n c, .int .i64 (q : Int)] w fun e w' => e = .returned (.int .i64 ((q : Int) + 2 * n)) ∧ w.grownBy w' (some g) ∧ MkW g q A c n w' := by
  rcases h with rfl | ⟨rfl, hnc, arr, hk, hz⟩
  · refine (markW0 A c _ w).mono ?_
    rintro e w' ⟨rfl, rfl⟩
    exact ⟨ret_int (by simp), World.grownBy.refl _ _, .inl rfl⟩
  · refine (markW_any g n c c q [] w ⟨arr, hk, hz, fun p u h => absurd h (by omega)⟩ hnc (by omega)).mono ?_
    rintro e w' ⟨rfl, hg, hf⟩
    exact ⟨rfl, hg, .inr ⟨rfl, hnc, hf⟩⟩
theorem heldIX (g q : Nat) (A : Option Addr) (c n : Nat) (w : World) (h : MkI g q A c n w) (hm : q + n ≤ 1000000) :
    Calls Try.prog 58 #[.slice A n c, .int .i64 (q : Int)] w fun e w' => e = .returned (.int .i64 ((q : Int) + n)) ∧ w = w' := by
  rcases h with rfl | ⟨rfl, hnc, hf⟩
  · refine (heldI0 A c _ w).mono ?_
    rintro e w' ⟨rfl, rfl⟩
    exact ⟨ret_int (by simp), rfl⟩
  · exact heldI_any g n c c q w hf hnc (by omega)
theorem heldWX (g q : Nat) (A : Option Addr) (c n : Nat) (w : World) (h : MkW g q A c n w) (hm : q + 2 * n ≤ 1000000) :
    Calls Try.prog 59 #[.slice A n c, .int .i64 (q : Int)] w fun e w' => e = .returned (.int .i64 ((q : Int) + 2 * n)) ∧ w = w' := by
  rcases h with rfl | ⟨rfl, hnc, hf⟩
  · refine (heldW0 A c _ w).mono ?_
    rintro e w' ⟨rfl, rfl⟩
    exact ⟨ret_int (by simp), rfl⟩
  · exact heldW_any g n c c q w hf hnc (by omega)

set_option maxHeartbeats 1000000 in
theorem markX (A B : Option Addr) (c d n m q g h : Nat) (w : World) (hgh : g ≠ h) (hwg : w.heap.size ≠ g) (hA : AtX 3 1 w g A c n) (hB : AtX 41 2 w h B d m) (hn : n ≤ 1000) (hm : m ≤ 1000) (hq : q ≤ 10) :
    Calls Try.prog 36 #[.agg #[.slice A n c, .slice B m d], .int .i64 (q : Int)] w fun e w' => e = .returned (.int .i64 ((q : Int) + n + 2 * m)) ∧ Kept2 w w' g h ∧ MkI g q A c n w' ∧ MkW h (q + n) B d m w' := by
  have hb0 : Below w.heap.size w (w.alloc (.cells #[.slice A n c, .slice B m d] 30)) := (Below.refl _ _).alloc (Nat.le_refl _) _
  have kB := Blk.new w 30 #[.slice A n c, .slice B m d]
  have hA0 := hA.below hb0
  have hB0 := hB.below hb0
  have hgg : w.grownBy (w.alloc (.cells #[.slice A n c, .slice B m d] 30)) (some g) := grown_below hb0 _
  clear hA hB
  go_enter Try.func36, Try.ntmps36
  go_wp2_with fail
  generalize w.alloc (.cells #[.slice A n c, .slice B m d] 30) = w0 at hb0 kB hA0 hB0 hgg ⊢
  refine (markIX g q A c n _ hA0 (by omega)).mono ?_
  rintro e w1 ⟨rfl, hg1, hI1⟩
  have hB1 := hB0.kept hg1 (by omega)
  have kB1 : Blk w1 w.heap.size 30 #[.slice A n c, .slice B m d] := kB.kept hg1 (by simp; omega)
  have hBc : w1.cell? ⟨w.heap.size, 1, none⟩ = some (.slice B m d) := kB1.cell 1
  have hgr := grown_trans hgg hg1
  clear hA0 hB0 kB kB1
  rw [show (q : Int) + n = ((q + n : Nat) : Int) by omega]
  go_wp2_with fail
  refine (markWX h (q + n) B d m _ hB1 (by omega)).mono ?_
  rintro e w2 ⟨rfl, hg2, hW2⟩
  go_wp2_with fail
  go_ret
  exact ⟨ret_int (by omega), kept2_of hgr hg2, hI1.kept hg2 hgh, hW2⟩

set_option maxHeartbeats 1000000 in
theorem heldX (A B : Option Addr) (c d n m q g h : Nat) (w : World) (hA : MkI g q A c n w) (hB : MkW h (q + n) B d m w) (hn : n ≤ 1000) (hm : m ≤ 1000) (hq : q ≤ 10) :
    Calls Try.prog 37 #[.agg #[.slice A n c, .slice B m d], .int .i64 (q : Int)] w fun e w' => e = .returned (.int .i64 ((q : Int) + n + 2 * m)) ∧ Below w.heap.size w w' := by
  have hb0 : Below w.heap.size w (w.alloc (.cells #[.slice A n c, .slice B m d] 30)) := (Below.refl _ _).alloc (Nat.le_refl _) _
  have kB := Blk.new w 30 #[.slice A n c, .slice B m d]
  have hA0 := hA.below hb0
  have hB0 := hB.below hb0
  clear hA hB
  go_enter Try.func37, Try.ntmps37
  go_wp2_with fail
  generalize w.alloc (.cells #[.slice A n c, .slice B m d] 30) = w0 at hb0 kB hA0 hB0 ⊢
  have hBc : w0.cell? ⟨w.heap.size, 1, none⟩ = some (.slice B m d) := kB.cell 1
  refine (heldIX g q A c n _ hA0 (by omega)).mono ?_
  rintro e w1 ⟨rfl, rfl⟩
  rw [show (q : Int) + n = ((q + n : Nat) : Int) by omega]
  have hnn : ¬ (((q + n : Nat) : Int) < 0) := by omega
  go_wp2_with fail
  refine (heldWX h (q + n) B d m _ hB0 (by omega)).mono ?_
  rintro e w2 ⟨rfl, rfl⟩
  go_wp2_with fail
  go_ret
  exact ⟨ret_int (by omega), hb0⟩

end Go.Proofs.Ytgabjepoooageaa
