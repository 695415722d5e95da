/-
  Words for memory that this seat's walks share: blocks known whole, slices that read as lists, worlds that keep all old blocks but one. Plain lemmas; no conditions.
-/
import Derived.WalkKit
import Derived.ProofKit
import Derived.OpenShut
import Derived.ShutString
import Derived.ChangeOld
import Derived.Below
import Derived.Deep.Draws
namespace Go.Proofs.Ytgabjepoooageaa
open Go.RowKit
set_option linter.unusedVariables false
set_option linter.unusedSimpArgs false

theorem hide {p : Prop} (h : p) : Hid p := h
theorem ret_int {k : IntKind} {a b : Int} (h : a = b) : Ending.returned (.int k a) = .returned (.int k b) := by rw [h]
theorem ret_bool {a b : Bool} (h : a = b) : Ending.returned (.bool a) = .returned (.bool b) := by rw [h]
theorem ret_str {a b : ByteArray} (h : a = b) : Ending.returned (.string a) = .returned (.string b) := by rw [h]

/-! ### a block that is known whole -/
def Blk (w : World) (g : Nat) (t : TypeId) (cs : Array Value) : Prop := w.heap[g]? = some (.cells cs t (0, 0))
section
variable {w w' : World} {g : Nat} {t : TypeId} {cs : Array Value}
theorem Blk.lt (h : Blk w g t cs) : g < w.heap.size := (Array.getElem?_eq_some_iff.1 h).1
theorem Blk.cell (h : Blk w g t cs) (i : Nat) : w.cell? ⟨g, i, none⟩ = cs[i]? := cell_of_row w g i cs t (0, 0) h
theorem Blk.free (h : Blk w g t cs) (i : Nat) : w.frozen? ⟨g, i, none⟩ = false := by
  unfold Blk at h
  simp [World.frozen?, h]
theorem Blk.drew (h : Blk w g t cs) : Blk w.drew g t cs := h
theorem Blk.drewN (h : Blk w g t cs) (n : Nat) : Blk (w.drewN n) g t cs := h
theorem Blk.alloc (h : Blk w g t cs) (o : Obj) : Blk (w.alloc o) g t cs := (Below.heap_alloc w o g h.lt).trans h
theorem Blk.new (w : World) (t : TypeId) (cs : Array Value) : Blk (w.alloc (.cells cs t)) w.heap.size t cs := heap_alloc_new w _
theorem Blk.set (h : Blk w g t cs) (i : Nat) (u : Value) : Blk (w.setCell ⟨g, i, none⟩ u) g t (cs.setIfInBounds i u) := by
  unfold Blk at h ⊢
  simp [World.setCell, Array.getElem?_modify, h]
theorem Blk.far (h : Blk w g t cs) {p : Addr} (hp : g ≠ p.block) (u : Value) : Blk (w.setCell p u) g t cs := (Below.heap_setCell w p u g hp).trans h
theorem Blk.kept {row : Option Nat} (h : Blk w g t cs) (hb : w.grownBy w' row) (hg : some g ≠ row) : Blk w' g t cs := (hb.block g h.lt hg).trans h
theorem Blk.below (h : Blk w g t cs) (hb : Below w.heap.size w w') : Blk w' g t cs := (hb.block g h.lt).trans h
theorem Blk.ne {g' : Nat} {t' : TypeId} {cs' : Array Value} (h : Blk w g t cs) (h' : Blk w g' t' cs') (hne : t ≠ t') : g ≠ g' := by
  rintro rfl
  unfold Blk at h h'
  rw [h] at h'
  injection h' with h'
  injection h' with _ ht
  exact hne ht
theorem own_blk_ne {base : Nat} {e : TypeId} {size n : Nat} {v : Value} {xs : List Value} (h : w.ownsRow base e size v n xs) (hg : Blk w g t cs) (hne : e ≠ t) : v.ownBlock ≠ some g := by
  rcases h.2 with ⟨rfl, _⟩ | ⟨g', cap, cur, rfl, _, hh, _⟩
  · simp [Value.ownBlock]
  · intro he
    have : g' = g := by simpa [Value.ownBlock] using he
    subst this
    exact Blk.ne (t := e) hh hg hne rfl
end

/-! ### worlds: all old blocks but (at most) one are as they were -/
theorem grown_trans {a b c : World} {row : Option Nat} (h : a.grownBy b row) (k : b.grownBy c row) : a.grownBy c row :=
  ⟨k.os.trans h.os, k.tape.trans h.tape, k.output.trans h.output, Nat.le_trans h.size k.size, fun i hi hn => (k.block i (Nat.lt_of_lt_of_le hi h.size) hn).trans (h.block i hi hn)⟩
theorem grown_below {a w : World} (h : Below a.heap.size a w) (row : Option Nat) : a.grownBy w row := ⟨h.os, h.tape, h.output, h.size, fun i hi _ => h.block i hi⟩
theorem below_grown {a w : World} (h : a.grownBy w none) : Below a.heap.size a w := ⟨h.os, h.tape, h.output, h.size, fun i hi => h.block i hi (by simp)⟩
theorem grown_drewN {a w : World} {row : Option Nat} (h : a.grownBy w row) (n : Nat) : a.grownBy (w.drewN n) row := ⟨h.os, h.tape, h.output, h.size, h.block⟩
theorem grown_drew {a w : World} {row : Option Nat} (h : a.grownBy w row) : a.grownBy w.drew row := ⟨h.os, h.tape, h.output, h.size, h.block⟩
theorem grown_alloc {a w : World} {row : Option Nat} (h : a.grownBy w row) (o : Obj) : a.grownBy (w.alloc o) row :=
  ⟨h.os, h.tape, h.output, Nat.le_trans h.size (by simp), fun i hi hne => (Below.heap_alloc w o i (Nat.lt_of_lt_of_le hi h.size)).trans (h.block i hi hne)⟩
theorem grown_set {a w : World} {g : Nat} (h : a.grownBy w (some g)) {p : Addr} (hp : p.block = g ∨ a.heap.size ≤ p.block) (u : Value) : a.grownBy (w.setCell p u) (some g) :=
  ⟨h.os, h.tape, h.output, by simpa [World.setCell] using h.size, fun i hi hne => (Below.heap_setCell w p u i (by
    rintro rfl
    rcases hp with hp | hp
    · exact hne (by rw [hp])
    · omega)).trans (h.block i hi hne)⟩
theorem below_drewN {B : Nat} {a w : World} (h : Below B a w) (n : Nat) : Below B a (w.drewN n) := ⟨h.os, h.tape, h.output, h.size, h.block⟩
/-- Old blocks but one, new ones whatever: below the one and below the size. -/
theorem below_of_grown {B : Nat} {a b c : World} {g : Nat} (h : Below B a b) (k : b.grownBy c (some g)) (hg : B ≤ g) (hB : B ≤ b.heap.size) : Below B a c :=
  h.grown k hB (fun i e => by cases e; exact hg)
/-- The two rules by which a walk reads old memory behind a contract that ends in 'Below'. -/
theorem bcell {W w1 : World} (hb : Below W.heap.size W w1) : (∀ b o, b < W.heap.size → w1.cell? ⟨b, o, none⟩ = W.cell? ⟨b, o, none⟩) ∧ (∀ b o, b < W.heap.size → w1.frozen? ⟨b, o, none⟩ = W.frozen? ⟨b, o, none⟩) ∧ W.heap.size ≤ w1.heap.size :=
  ⟨fun b o h => hb.cell (p := ⟨b, o, none⟩) h, fun b o h => hb.frozen (p := ⟨b, o, none⟩) h, hb.size⟩
theorem bt {B : Nat} {a b c : World} (h : Below B a b) (k : Below b.heap.size b c) (hB : B ≤ b.heap.size) : Below B a c := h.trans (k.mono hB)
theorem bt2 {a b c : World} (h : Below a.heap.size a b) (k : Below b.heap.size b c) : Below a.heap.size a c := h.trans (k.mono h.size)
theorem of_drew {B : Nat} {a c : World} (h : Below B a.drew c) : Below B a c := ⟨h.os, h.tape, h.output, h.size, h.block⟩
theorem cell_lt {w : World} {b o : Nat} {v : Value} (h : w.cell? ⟨b, o, none⟩ = some v) : b < w.heap.size := World.block_lt_of_cell? w _ h

/-! ### a slice that reads as a list: 'enc' says how an element's cells are made, 'size' how many they are -/
def Rl {α : Type} (enc : α → List Value) (size : Nat) (w : World) (A : Option Addr) (xs : List α) : Prop :=
  xs = [] ∨ ∃ b off, A = some ⟨b, off, none⟩ ∧ ∀ k x, xs[k]? = some x → ∀ j u, (enc x)[j]? = some u → w.cell? ⟨b, off + k * size + j, none⟩ = some u
section
variable {α : Type} {enc : α → List Value} {size : Nat} {w w' : World} {A : Option Addr} {xs : List α}
theorem Rl.keep (h : Rl enc size w A xs) (hk : ∀ b o u, A.map (·.block) = some b → w.cell? ⟨b, o, none⟩ = some u → w'.cell? ⟨b, o, none⟩ = some u) : Rl enc size w' A xs := by
  rcases h with h | ⟨b, off, rfl, hc⟩
  · exact .inl h
  · exact .inr ⟨b, off, rfl, fun k x hx j u hu => hk _ _ _ rfl (hc k x hx j u hu)⟩
theorem Rl.below (h : Rl enc size w A xs) (hb : Below w.heap.size w w') : Rl enc size w' A xs := h.keep fun b o u _ hc => (hb.cell (p := ⟨b, o, none⟩) (cell_lt hc)).trans hc
theorem Rl.kept {row : Option Nat} (h : Rl enc size w A xs) (hb : w.grownBy w' row) (hne : ∀ g, row = some g → A.map (·.block) ≠ some g) : Rl enc size w' A xs :=
  h.keep fun b o u hA hc => hb.cell hc (fun e => hne b e.symm hA)
theorem Rl.drewN (h : Rl enc size w A xs) (n : Nat) : Rl enc size (w.drewN n) A xs := h
theorem Rl.drew (h : Rl enc size w A xs) : Rl enc size w.drew A xs := h
theorem Rl.alloc (h : Rl enc size w A xs) (o : Obj) : Rl enc size (w.alloc o) A xs := h.below ((Below.refl _ _).alloc (Nat.le_refl _) o)
theorem Rl.nil : Rl enc size w A [] := .inl rfl
/-- What is read of the k-th element: the head of the row, and each cell. -/
theorem Rl.at {k : Nat} (h : Rl enc size w A xs) (hk : k < xs.length) : ∃ b off, A = some ⟨b, off, none⟩ ∧ ∀ j u, (enc xs[k])[j]? = some u → w.cell? ⟨b, off + k * size + j, none⟩ = some u := by
  rcases h with h | ⟨b, off, rfl, hc⟩
  · subst h; simp at hk
  · exact ⟨b, off, rfl, fun j u hu => hc k _ (List.getElem?_eq_getElem hk) j u hu⟩
/-- A part of the row: from k on. -/
theorem Rl.drop (h : Rl enc size w A xs) (k : Nat) : Rl enc size w (A.map fun a => ⟨a.block, a.off + k * size, none⟩) (xs.drop k) := by
  rcases h with h | ⟨b, off, rfl, hc⟩
  · exact .inl (by rw [h]; simp)
  · refine .inr ⟨b, off + k * size, rfl, fun i x hx j u hu => ?_⟩
    rw [List.getElem?_drop] at hx
    have := hc _ _ hx j u hu
    rw [Nat.add_mul, ← Nat.add_assoc] at this
    exact this
theorem Rl.take (h : Rl enc size w A xs) (k : Nat) : Rl enc size w A (xs.take k) := by
  rcases h with h | ⟨b, off, rfl, hc⟩
  · exact .inl (by rw [h]; simp)
  · refine .inr ⟨b, off, rfl, fun i x hx j u hu => ?_⟩
    rw [List.getElem?_take] at hx
    split at hx
    · exact hc _ _ hx j u hu
    · cases hx
theorem getElem?_flatMap_size (hs : ∀ x, (enc x).length = size) : ∀ (xs : List α) (k j : Nat) (x : α) (u : Value), xs[k]? = some x → (enc x)[j]? = some u → (xs.flatMap enc)[k * size + j]? = some u := by
  intro xs
  induction xs with
  | nil => intro k j x u h; simp at h
  | cons y ys ih =>
    intro k j x u hx hu
    have hj : j < size := by
      have := (List.getElem?_eq_some_iff.1 hu).1
      rw [hs] at this
      exact this
    rw [List.flatMap_cons]
    rcases k with _ | k
    · simp at hx
      subst hx
      rw [Nat.zero_mul, Nat.zero_add, List.getElem?_append_left (by rw [hs]; exact hj)]
      exact hu
    · simp at hx
      rw [List.getElem?_append_right (by rw [hs, Nat.add_mul]; omega), hs]
      have : (k + 1) * size + j - size = k * size + j := by rw [Nat.add_mul]; omega
      rw [this]
      exact ih k j x u hx hu
theorem length_flatMap_size (hs : ∀ x, (enc x).length = size) (xs : List α) : (xs.flatMap enc).length = xs.length * size := by
  induction xs with
  | nil => simp
  | cons y ys ih => rw [List.flatMap_cons, List.length_append, ih, hs, List.length_cons, Nat.add_mul]; omega
/-- A row of the call's own reads as the list. -/
theorem Rl.of_own {base : Nat} {e : TypeId} {n c : Nat} (h0 : 0 < size) (hs : ∀ x, (enc x).length = size) (h : w.ownsRow base e size (.slice A n c) n (xs.flatMap enc)) : Rl enc size w A xs := by
  rcases h.2 with ⟨_, rfl⟩ | ⟨g, cap, cur, hv, _, hg, _, _, _, htake⟩
  · have hl := h.1
    rw [length_flatMap_size hs, Nat.zero_mul] at hl
    exact .inl (List.eq_nil_of_length_eq_zero ((Nat.mul_eq_zero.1 hl).resolve_right (by omega)))
  · obtain ⟨rfl, rfl⟩ : A = some ⟨g, 0, none⟩ ∧ c = cap := by simpa using hv
    refine .inr ⟨g, 0, rfl, fun k x hx j u hu => ?_⟩
    have hq := getElem?_flatMap_size hs xs k j x u hx hu
    rw [Nat.zero_add, cell_of_row w g _ cur e (0, 0) hg]
    rw [← htake, List.getElem?_take] at hq
    split at hq
    · simpa using hq
    · cases hq
end

def encB (z : Int) : List Value := [.int .u8 z]
def encI (z : Int) : List Value := [.int .i64 z]

end Go.Proofs.Ytgabjepoooageaa
