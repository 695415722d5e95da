/-
  Rows of a call's own, whatever their elements: kept, opened as lists, stored into. Plain lemmas; no conditions.
-/
import Derived.Test.YtgabjepoooageaaMore
import Derived.Laws.AppendOwn
namespace Go.Proofs.Ytgabjepoooageaa
open Go.RowKit
set_option linter.unusedVariables false
set_option linter.unusedSimpArgs false

section
variable {w w' : World} {B e size n k : Nat} {v : Value} {xs : List Value}
theorem ow_below (h : w.ownsRow B e size v n xs) (hb : Below w.heap.size w w') : w'.ownsRow B e size v n xs := by
  obtain ⟨h1, h2⟩ := h
  refine ⟨h1, ?_⟩
  rcases h2 with h2 | ⟨g, cap, cur, a, b, c, d⟩
  · exact .inl h2
  · exact .inr ⟨g, cap, cur, a, b, (hb.block g (Array.getElem?_eq_some_iff.1 c).1).trans c, d⟩
theorem ow_kept {row : Option Nat} (h : w.ownsRow B e size v n xs) (hb : w.grownBy w' row) (hr : ∀ g, row = some g → g < B) : w'.ownsRow B e size v n xs := by
  obtain ⟨h1, h2⟩ := h
  refine ⟨h1, ?_⟩
  rcases h2 with h2 | ⟨g, cap, cur, a, b, c, d⟩
  · exact .inl h2
  · exact .inr ⟨g, cap, cur, a, b, (hb.block g (Array.getElem?_eq_some_iff.1 c).1 (fun e => by have := hr g e.symm; omega)).trans c, d⟩
theorem ow_ge (h : w.ownsRow B e size v n xs) (hk : v.ownBlock = some k) : B ≤ k := by
  rcases h.2 with ⟨rfl, _⟩ | ⟨g, cap, cur, rfl, a, _⟩
  · cases hk
  · cases hk; exact a
theorem ow_lt (h : w.ownsRow B e size v n xs) (hk : v.ownBlock = some k) : k < w.heap.size := by
  rcases h.2 with ⟨rfl, _⟩ | ⟨g, cap, cur, rfl, a, hg, _⟩
  · cases hk
  · cases hk; exact (Array.getElem?_eq_some_iff.1 hg).1
theorem ow_mono {B' : Nat} (h : w.ownsRow B e size v n xs) (hB : B' ≤ B) : w.ownsRow B' e size v n xs := by
  obtain ⟨h1, h2⟩ := h
  refine ⟨h1, ?_⟩
  rcases h2 with h2 | ⟨g, cap, cur, a, b, c, d⟩
  · exact .inl h2
  · exact .inr ⟨g, cap, cur, a, by omega, c, d⟩
/-- Behind an append onto a row that is no older than the world at the beginning. -/
theorem grown_own {a b c : World} {row own : Option Nat} (h : a.grownBy b row) (k : b.grownBy c own) (ho : ∀ g, own = some g → a.heap.size ≤ g) : a.grownBy c row :=
  ⟨k.os.trans h.os, k.tape.trans h.tape, k.output.trans h.output, Nat.le_trans h.size k.size, fun i hi hn => (k.block i (Nat.lt_of_lt_of_le hi h.size) (fun e => by have := ho i e.symm; omega)).trans (h.block i hi hn)⟩
theorem ow_empty (w w' : World) (e size : Nat) (h : w'.heap[w.heap.size]? = some (.cells #[] e (0, 0))) : w'.ownsRow w.heap.size e size (.slice (some ⟨w.heap.size, 0, none⟩) 0 0) 0 [] :=
  ⟨by simp, .inr ⟨w.heap.size, 0, #[], rfl, Nat.le_refl _, h, Nat.le_refl _, by omega, by simp, by simp⟩⟩
theorem ow_nil (w : World) (B e size : Nat) : w.ownsRow B e size (.slice none 0 0) 0 [] := ⟨by simp, .inl ⟨rfl, rfl⟩⟩
end

/-- A slice that reads as a list; its memory is no older than B. -/
structure Lst {α : Type} (enc : α → List Value) (size : Nat) (B : Nat) (w : World) (A : Option Addr) (c : Nat) (xs : List α) : Prop where
  rl : Rl enc size w A xs
  cap : xs.length ≤ c
  max : c ≤ 9223372036854775807
  blk : ∀ b, A.map (·.block) = some b → B ≤ b ∧ b < w.heap.size
section
variable {α : Type} {enc : α → List Value} {size B c : Nat} {w w' : World} {A : Option Addr} {xs : List α}
theorem Lst.below (h : Lst enc size B w A c xs) (hb : Below w.heap.size w w') : Lst enc size B w' A c xs :=
  ⟨h.rl.below hb, h.cap, h.max, fun b hb' => ⟨(h.blk b hb').1, Nat.lt_of_lt_of_le (h.blk b hb').2 hb.size⟩⟩
theorem Lst.kept {row : Option Nat} (h : Lst enc size B w A c xs) (hb : w.grownBy w' row) (hr : ∀ g, row = some g → g < B) : Lst enc size B w' A c xs :=
  ⟨h.rl.kept hb (fun g e ha => by have := hr g e; have := (h.blk g ha).1; omega), h.cap, h.max, fun b hb' => ⟨(h.blk b hb').1, Nat.lt_of_lt_of_le (h.blk b hb').2 hb.size⟩⟩
theorem Lst.kept2 {row : Option Nat} (h : Lst enc size B w A c xs) (hb : w.grownBy w' row) (hr : ∀ g b, row = some g → A.map (·.block) = some b → b ≠ g) : Lst enc size B w' A c xs :=
  ⟨h.rl.kept hb (fun g e ha => hr g g e ha rfl), h.cap, h.max, fun b hb' => ⟨(h.blk b hb').1, Nat.lt_of_lt_of_le (h.blk b hb').2 hb.size⟩⟩
theorem Lst.mono {B' : Nat} (h : Lst enc size B w A c xs) (hB : B' ≤ B) : Lst enc size B' w A c xs := ⟨h.rl, h.cap, h.max, fun b hb => ⟨Nat.le_trans hB (h.blk b hb).1, (h.blk b hb).2⟩⟩
theorem Lst.alloc (h : Lst enc size B w A c xs) (o : Obj) : Lst enc size B (w.alloc o) A c xs := h.below ((Below.refl _ _).alloc (Nat.le_refl _) o)
/-- A row of the call's own, opened. -/
theorem ow_open {e : TypeId} {v : Value} (h0 : 0 < size) (hs : ∀ x, (enc x).length = size) (h : w.ownsRow B e size v xs.length (xs.flatMap enc)) :
    ∃ A c, v = .slice A xs.length c ∧ Lst enc size B w A c xs ∧ (xs = [] ∨ ∃ g arr, A = some ⟨g, 0, none⟩ ∧ B ≤ g ∧ Blk w g e arr ∧ arr.size = c * size) := by
  have h' := h
  obtain ⟨_, ⟨h4, h5⟩ | ⟨g, cap, cur, h4, hB, hg, hnc, hm, hz, htk⟩⟩ := h
  · have : xs = [] := List.eq_nil_of_length_eq_zero h5
    subst this
    exact ⟨none, 0, h4, ⟨Rl.nil, Nat.le_refl _, by omega, fun b hb => by cases hb⟩, .inl rfl⟩
  · subst h4
    refine ⟨some ⟨g, 0, none⟩, cap, rfl, ⟨Rl.of_own h0 hs h', hnc, by unfold maxLen at hm; omega, fun b hb => ?_⟩, .inr ⟨g, cur, rfl, hB, hg, hz⟩⟩
    simp at hb
    subst hb
    exact ⟨hB, (Array.getElem?_eq_some_iff.1 hg).1⟩
/-- One element stored anew. -/
theorem Rl.store {g off k : Nat} {x : α} (hs : ∀ x, (enc x).length = size) (h : Rl enc size w (some ⟨g, off, none⟩) xs) (hk : k < xs.length)
    (hold : ∀ o u, (o < off + k * size ∨ off + k * size + size ≤ o) → w.cell? ⟨g, o, none⟩ = some u → w'.cell? ⟨g, o, none⟩ = some u)
    (hnew : ∀ j u, (enc x)[j]? = some u → w'.cell? ⟨g, off + k * size + j, none⟩ = some u) : Rl enc size w' (some ⟨g, off, none⟩) (xs.set k x) := by
  rcases h with h | ⟨b, off', he, hc⟩
  · subst h; simp at hk
  · obtain ⟨rfl, rfl⟩ : g = b ∧ off = off' := by simpa using he
    refine .inr ⟨g, off, rfl, fun i y hi j u hu => ?_⟩
    rw [List.getElem?_set] at hi
    by_cases hki : k = i
    · subst hki
      rw [if_pos rfl, if_pos hk] at hi
      obtain rfl : x = y := by simpa using hi
      exact hnew j u hu
    · rw [if_neg hki] at hi
      have hj : j < size := by
        have := (List.getElem?_eq_some_iff.1 hu).1
        rw [hs] at this
        exact this
      refine hold _ _ ?_ (hc i y hi j u hu)
      rcases Nat.lt_or_gt_of_ne hki with h1 | h1
      · right
        have := Nat.mul_le_mul_right size (show k + 1 ≤ i from h1)
        rw [Nat.add_mul] at this
        omega
      · left
        have := Nat.mul_le_mul_right size (show i + 1 ≤ k from h1)
        rw [Nat.add_mul] at this
        omega
end

theorem add_at (b off k : Nat) : (⟨b, off, none⟩ : Addr).add k = ⟨b, off + k, none⟩ := by
  unfold Addr.add
  split <;> simp_all
/-- One element appended onto a row of the call's own: it lies in the block that the statement has just laid. -/
theorem wpList_elem {P : Program} {ops : Array Oper} {rest : List Oper} {o : Oper} {a : Act} {Q : Exit → Act → World → Prop} {w0 : World} {α : Type} {enc : α → List Value} {size bytes : Nat} {t e : TypeId} {i : TypeInfo} {z : Value}
    (ht : P.underlying t = some (.slice e)) (hi : P.info? e = some i) (hz : i.zero = some z) (hsize : i.size = size) (hby : i.bytes = bytes) (hzs : z.cells.size = size) (hsz : 0 < size) (hb : bytes ≤ 64)
    (henc : ∀ x, (enc x).length = size) (hone : ∀ x, ∀ u ∈ enc x, u.oneCell' = true) (hgd : o.guard = none) (s x : Operand) (ho : o.op = .call { callee := .builtin .append, args := #[s, x], argTypes := #[t, t] })
    (base : Nat) (v : Value) (xs : List α) (hs : a.eval s = v) (hown : w0.ownsRow base e size v xs.length (xs.flatMap enc)) (y : α) (arr : Array Value) (harr : arr.toList = enc y) (G : Nat) (hG : w0.heap.size = G) (hx : a.eval x = .slice (some ⟨G, 0, none⟩) 1 1)
    (hl : xs.length ≤ 10000) (hbase : base ≤ w0.heap.size)
    (h : ∀ v' w', w'.ownsRow base e size v' (xs ++ [y]).length ((xs ++ [y]).flatMap enc) → w0.grownBy w' v.ownBlock → wpList P ops Q rest (a.put o.dst v') w') : wpList P ops Q (o :: rest) a (w0.alloc (.cells arr e)) := by
  subst hG
  have hbytes : (xs.length + 1) * bytes ≤ 10001 * 64 := Nat.mul_le_mul (by omega) hb
  refine wpList_append_own _ hgd s x t ho base e i z size bytes ht hi hz hsize hby hzs hsz v xs.length _ hs (ow_below hown ((Below.refl _ _).alloc (Nat.le_refl _) _)) ⟨w0.heap.size, 0, none⟩ 1 1 (enc y) hx (by rw [henc]; omega) (fun j u hu => ?_) (hone y) (by unfold maxLen; omega) (by omega) (by simp; omega) (fun v' w' ho' hg _ => h v' w' ?_ ?_)
  · rw [add_at, Nat.zero_add, (Blk.new w0 e arr).cell, ← Array.getElem?_toList, harr]
    exact hu
  · simpa using ho'
  · exact grown_trans (w0.grownBy_alloc _ _) hg
/-- Some bytes appended likewise. -/
theorem wpList_bytes {P : Program} {ops : Array Oper} {rest : List Oper} {o : Oper} {a : Act} {Q : Exit → Act → World → Prop} {w0 : World} {t e : TypeId} {i : TypeInfo}
    (ht : P.underlying t = some (.slice e)) (hi : P.info? e = some i) (hz : i.zero = some (.int .u8 0)) (hsize : i.size = 1) (hby : i.bytes = 1) (hgd : o.guard = none) (s x : Operand) (ho : o.op = .call { callee := .builtin .append, args := #[s, x], argTypes := #[t, t] })
    (base : Nat) (v : Value) (zs : List Int) (hs : a.eval s = v) (hown : w0.ownsRow base e 1 v zs.length (zs.map (.int .u8))) (news : List Int) (arr : Array Value) (m : Nat) (harr : arr.toList = news.map (.int .u8)) (hm : news.length = m) (G : Nat) (hG : w0.heap.size = G) (hx : a.eval x = .slice (some ⟨G, 0, none⟩) m m)
    (hl : zs.length + m ≤ 100000) (hbase : base ≤ w0.heap.size)
    (h : ∀ v' w', w'.ownsRow base e 1 v' (zs ++ news).length ((zs ++ news).map (.int .u8)) → w0.grownBy w' v.ownBlock → wpList P ops Q rest (a.put o.dst v') w') : wpList P ops Q (o :: rest) a (w0.alloc (.cells arr e)) := by
  subst hm hG
  refine wpList_append_own _ hgd s x t ho base e i (.int .u8 0) 1 1 ht hi hz hsize hby rfl (by decide) v zs.length _ hs (ow_below hown ((Below.refl _ _).alloc (Nat.le_refl _) _)) ⟨w0.heap.size, 0, none⟩ news.length news.length (news.map (.int .u8)) hx (by simp) (fun j u hu => ?_) (fun u hu => ?_) (by unfold maxLen; omega) (by omega) (by simp; omega) (fun v' w' ho' hg _ => h v' w' ?_ ?_)
  · rw [add_at, Nat.zero_add, (Blk.new w0 e arr).cell, ← Array.getElem?_toList, harr]
    exact hu
  · obtain ⟨z, _, rfl⟩ := List.mem_map.1 hu
    rfl
  · simpa using ho'
  · exact grown_trans (w0.grownBy_alloc _ _) hg

/-! ### a block of three cells -/
theorem blk_set3 {w : World} {g T : Nat} {x0 x1 x2 : Value} (h : Blk w g T #[x0, x1, x2]) (u0 u1 u2 : Value) : Blk (((w.setCell ⟨g, 0, none⟩ u0).setCell ⟨g, 1, none⟩ u1).setCell ⟨g, 2, none⟩ u2) g T #[u0, u1, u2] := by
  simpa using ((h.set 0 u0).set 1 u1).set 2 u2
theorem blk_far3 {w : World} {g g' T : Nat} {cs : Array Value} (h : Blk w g T cs) (hne : g ≠ g') (u0 u1 u2 : Value) : Blk (((w.setCell ⟨g', 0, none⟩ u0).setCell ⟨g', 1, none⟩ u1).setCell ⟨g', 2, none⟩ u2) g T cs :=
  ((h.far (p := ⟨g', 0, none⟩) hne u0).far (p := ⟨g', 1, none⟩) hne u1).far (p := ⟨g', 2, none⟩) hne u2
theorem blk_cells3 {w : World} {g T : Nat} {u0 u1 u2 : Value} (h : Blk w g T #[u0, u1, u2]) : w.cell? ⟨g, 0, none⟩ = some u0 ∧ w.cell? ⟨g, 1, none⟩ = some u1 ∧ w.cell? ⟨g, 2, none⟩ = some u2 := ⟨h.cell 0, h.cell 1, h.cell 2⟩

end Go.Proofs.Ytgabjepoooageaa
