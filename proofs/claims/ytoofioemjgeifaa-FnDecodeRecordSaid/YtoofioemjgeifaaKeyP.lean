/-
  Keys of rows in plain Lean: what a row's key is, that keys are ordered like rows, and that a key has one row. No program is named. No conditions.
-/
import Derived.Test.YtoofioemjgeifaaOrd
import Derived.Laws.BytesArg
namespace Go.Proofs.Ytoofioemjgeifaa
open Go.RowKit
set_option linter.unusedVariables false
set_option linter.unusedSimpArgs false

/-- The bytes of a text, as numbers. -/
def nums (s : ByteArray) : List Int := s.data.toList.map fun c => (c.toNat : Int)
/-- The bytes of a value's key, as numbers. -/
def kz (v : Vl) : List Int :=
  if v.k = 0 then [97]
  else if v.k = 1 then [98, 48 + (v.n + 999999) / 200000, 32 + (v.n + 999999) / 4000 % 50, 32 + (v.n + 999999) / 80 % 50, 32 + (v.n + 999999) % 80]
  else 99 :: (nums v.s ++ [1])
def ekb (v : Vl) : ByteArray := strOfNums (kz v)
def ek (vs : List Vl) : ByteArray := strOfNums (vs.flatMap kz)

theorem son_app (a b : List Int) : strOfNums (a ++ b) = strOfNums a ++ strOfNums b := by
  unfold strOfNums
  ext : 1
  simp
theorem son_nums (t : ByteArray) : strOfNums (nums t) = t := by
  have : ∀ l : List UInt8, (l.map fun x => (x.toNat : Int)).map (fun n => UInt8.ofNat n.toNat) = l := by
    intro l
    induction l with
    | nil => rfl
    | cons a l ih => simp at ih ⊢; exact ih
  unfold strOfNums nums
  rw [this]
theorem nums_son {zs : List Int} (h : ∀ z ∈ zs, 0 ≤ z ∧ z ≤ 255) : nums (strOfNums zs) = zs := by
  unfold nums
  rw [strOfNums_data, List.map_map]
  conv => rhs; rw [← List.map_id zs]
  apply List.map_congr_left
  intro z hz
  have := h z hz
  simp
  omega
theorem nums_rng {s : ByteArray} : ∀ z ∈ nums s, 0 ≤ z ∧ z ≤ 255 := by
  intro z hz
  obtain ⟨c, _, rfl⟩ := List.mem_map.1 hz
  have := c.toNat_lt
  omega
theorem nums_inj {s t : ByteArray} (h : nums s = nums t) : s = t := by
  rw [← son_nums s, ← son_nums t, h]
theorem nums_len (s : ByteArray) : (nums s).length = s.size := by simp [nums]
theorem ek_nil : ek [] = ByteArray.empty := rfl
theorem ek_app (xs ys : List Vl) : ek (xs ++ ys) = ek xs ++ ek ys := by
  unfold ek
  rw [List.flatMap_append, son_app]
theorem ek_one (v : Vl) : ek [v] = ekb v := by
  unfold ek ekb
  simp
theorem ek_cons (v : Vl) (vs : List Vl) : ek (v :: vs) = ekb v ++ ek vs := by
  rw [← List.singleton_append, ek_app, ek_one]
theorem ekb_size {v : Vl} (h : vv v = true) : 1 ≤ (ekb v).size ∧ (ekb v).size ≤ 14 := by
  unfold ekb
  rw [strOfNums_size]
  unfold kz
  rcases vv_kind h with ⟨k, n, s⟩ | ⟨k, n, n', s⟩ | ⟨k, n, s⟩
  · rw [if_pos k]; simp
  · rw [if_neg (by omega), if_pos k]; simp
  · rw [if_neg (by omega), if_neg (by omega)]
    unfold vtB at s
    rw [Bool.and_eq_true, decide_eq_true_eq] at s
    simp [nums_len]
    omega
theorem ek_size : ∀ {vs : List Vl}, (∀ v ∈ vs, vv v = true) → vs.length ≤ (ek vs).size ∧ (ek vs).size ≤ 14 * vs.length
  | [], _ => by simp [ek_nil]
  | v :: vs, h => by
    have h1 := ekb_size (h v (by simp))
    have h2 := ek_size (vs := vs) (fun x hx => h x (by simp [hx]))
    rw [ek_cons, ByteArray.size_append, List.length_cons]
    omega
theorem vt_rng {s : ByteArray} (h : vtB s = true) : ∀ z ∈ nums s, 32 ≤ z ∧ z ≤ 126 := by
  intro z hz
  obtain ⟨c, hc, rfl⟩ := List.mem_map.1 hz
  unfold vtB at h
  rw [Bool.and_eq_true, List.all_eq_true] at h
  exact rng_iff.1 (h.2 c hc)
theorem kz_rng {v : Vl} (h : vv v = true) : ∀ z ∈ kz v, 0 ≤ z ∧ z ≤ 255 := by
  unfold kz
  rcases vv_kind h with ⟨k, n, s⟩ | ⟨k, n, n', s⟩ | ⟨k, n, s⟩
  · rw [if_pos k]
    intro z hz
    simp at hz
    omega
  · rw [if_neg (by omega), if_pos k]
    intro z hz
    simp only [List.mem_cons, List.not_mem_nil, or_false] at hz
    omega
  · rw [if_neg (by omega), if_neg (by omega)]
    intro z hz
    simp only [List.mem_cons, List.mem_append, List.not_mem_nil, or_false] at hz
    rcases hz with hz | hz | hz
    · omega
    · exact nums_rng z hz
    · omega
theorem kZ_rng {vs : List Vl} (h : ∀ v ∈ vs, vv v = true) : ∀ z ∈ vs.flatMap kz, 0 ≤ z ∧ z ≤ 255 := by
  intro z hz
  obtain ⟨v, hv, hz⟩ := List.mem_flatMap.1 hz
  exact kz_rng (h v hv) z hz

/-! ### the order -/
def cz : List Int → List Int → Int
  | [], [] => 0
  | [], _ :: _ => -1
  | _ :: _, [] => 1
  | a :: x, b :: y => if a < b then -1 else if b < a then 1 else cz x y
theorem cz_bl : ∀ x y : List UInt8, cz (x.map fun c => (c.toNat : Int)) (y.map fun c => (c.toNat : Int)) = if Op.bytesLess x y = true then -1 else if (x == y) = true then 0 else 1
  | [], [] => by simp [cz, Op.bytesLess]
  | [], b :: y => by simp [cz, Op.bytesLess]
  | a :: x, [] => by simp [cz, Op.bytesLess]
  | a :: x, b :: y => by
    rw [List.map_cons, List.map_cons, cz, cz_bl x y]
    have hl : (a < b) = (a.toNat < b.toNat) := by rw [UInt8.lt_iff_toNat_lt]
    by_cases h1 : a.toNat < b.toNat
    · rw [if_pos (by omega)]
      have : Op.bytesLess (a :: x) (b :: y) = true := by simp [Op.bytesLess, hl, h1]
      rw [if_pos this]
    · rw [if_neg (by omega)]
      by_cases h2 : b.toNat < a.toNat
      · have hne : a ≠ b := by rintro rfl; omega
        have e1 : Op.bytesLess (a :: x) (b :: y) = false := by simp [Op.bytesLess, hl, h1, hne]
        have e2 : ((a :: x) == (b :: y)) = false := by simp [hne]
        rw [if_pos (by omega), e1, e2]
        simp
      · have he : a = b := UInt8.toNat_inj.1 (by omega)
        subst he
        rw [if_neg (by omega)]
        have e1 : Op.bytesLess (a :: x) (a :: y) = Op.bytesLess x y := by simp [Op.bytesLess, hl]
        have e2 : ((a :: x) == (a :: y)) = (x == y) := by simp
        rw [e1, e2]
theorem cmpT_cz (s t : ByteArray) : cmpT s t = cz (nums s) (nums t) := by
  unfold nums
  rw [cz_bl]
  unfold cmpT
  rw [ByteArray.toList_eq, ByteArray.toList_eq]
theorem cz_same : ∀ x : List Int, cz x x = 0
  | [] => rfl
  | a :: x => by rw [cz, if_neg (by omega), if_neg (by omega), cz_same x]
theorem cz_zero : ∀ {x y : List Int}, cz x y = 0 → x = y
  | [], [], _ => rfl
  | [], b :: y, h => by simp [cz] at h
  | a :: x, [], h => by simp [cz] at h
  | a :: x, b :: y, h => by
    rw [cz] at h
    split at h
    · cases h
    · split at h
      · cases h
      · have e : a = b := by omega
        rw [e, cz_zero h]
theorem cz_text : ∀ (S T p q : List Int), (∀ z ∈ S, 32 ≤ z) → (∀ z ∈ T, 32 ≤ z) → cz (S ++ 1 :: p) (T ++ 1 :: q) = if cz S T = 0 then cz p q else cz S T
  | [], [], p, q, _, _ => by simp [cz]
  | [], b :: T, p, q, _, h => by
    have := h b (by simp)
    simp only [List.nil_append, List.cons_append, cz]
    rw [if_pos (by omega)]
    simp
  | a :: S, [], p, q, h, _ => by
    have := h a (by simp)
    simp only [List.nil_append, List.cons_append, cz]
    rw [if_neg (by omega), if_pos (by omega)]
    simp
  | a :: S, b :: T, p, q, h, k => by
    have ih := cz_text S T p q (fun z hz => h z (by simp [hz])) (fun z hz => k z (by simp [hz]))
    have e1 : cz (a :: S) (b :: T) = if a < b then -1 else if b < a then 1 else cz S T := rfl
    have e2 : cz (a :: S ++ 1 :: p) (b :: T ++ 1 :: q) = if a < b then -1 else if b < a then 1 else cz (S ++ 1 :: p) (T ++ 1 :: q) := rfl
    by_cases h1 : a < b
    · rw [if_pos h1] at e1 e2
      rw [e2, e1]
      rfl
    · rw [if_neg h1] at e1 e2
      by_cases h2 : b < a
      · rw [if_pos h2] at e1 e2
        rw [e2, e1]
        rfl
      · rw [if_neg h2] at e1 e2
        rw [e2, e1, ih]
theorem cz_kz {a b : Vl} (ha : vv a = true) (hb : vv b = true) (p q : List Int) : cz (kz a ++ p) (kz b ++ q) = if ci a b = 0 then cz p q else ci a b := by
  unfold kz
  rcases vv_kind ha with ⟨ka, na, sa⟩ | ⟨ka, na, na', sa⟩ | ⟨ka, na, sa⟩ <;> rcases vv_kind hb with ⟨kb, nb, sb⟩ | ⟨kb, nb, nb', sb⟩ | ⟨kb, nb, sb⟩
  · have : a = b := by
      obtain ⟨ak, an, a3⟩ := a
      obtain ⟨bk, bn, b3⟩ := b
      dsimp only at *
      rw [ka, na, kb, nb, emp_iff sa, emp_iff sb]
    subst this
    rw [ci_self, if_pos ka]
    simp [cz]
  · have e : ci a b = -1 := by unfold ci; rw [if_pos (by omega)]; unfold cmpI; rw [if_pos (by omega)]
    rw [e, if_pos ka, if_neg (by omega), if_pos kb]
    simp [cz]
  · have e : ci a b = -1 := by unfold ci; rw [if_pos (by omega)]; unfold cmpI; rw [if_pos (by omega)]
    rw [e, if_pos ka, if_neg (by omega), if_neg (by omega)]
    simp [cz]
  · have e : ci a b = 1 := by unfold ci; rw [if_pos (by omega)]; unfold cmpI; rw [if_neg (by omega), if_pos (by omega)]
    rw [e, if_pos kb, if_neg (by omega), if_pos ka]
    simp [cz]
  · have e : ci a b = cmpI a.n b.n := by unfold ci; rw [if_neg (by omega), if_pos ka]
    rw [e, if_neg (by omega), if_pos ka, if_neg (by omega), if_pos kb]
    simp only [List.cons_append, List.nil_append, cz]
    rw [if_neg (show ¬ ((98 : Int) < 98) by omega), if_neg (show ¬ ((98 : Int) < 98) by omega)]
    unfold cmpI
    by_cases h1 : a.n < b.n
    · rw [if_pos h1]
      rw [if_neg (show ¬ ((-1 : Int) = 0) by omega)]
      repeat' split
      all_goals (first | rfl | (exfalso; omega))
    · rw [if_neg h1]
      by_cases h2 : b.n < a.n
      · rw [if_pos h2]
        rw [if_neg (show ¬ ((1 : Int) = 0) by omega)]
        repeat' split
        all_goals (first | rfl | (exfalso; omega))
      · rw [if_neg h2, if_pos rfl]
        have h3 : a.n = b.n := by omega
        rw [h3]
        repeat' split
        all_goals (first | rfl | (exfalso; omega))
  · have e : ci a b = -1 := by unfold ci; rw [if_pos (by omega)]; unfold cmpI; rw [if_pos (by omega)]
    rw [e, if_neg (by omega), if_pos ka, if_neg (by omega), if_neg (by omega)]
    simp [cz]
  · have e : ci a b = 1 := by unfold ci; rw [if_pos (by omega)]; unfold cmpI; rw [if_neg (by omega), if_pos (by omega)]
    rw [e, if_pos kb, if_neg (by omega), if_neg (by omega)]
    simp [cz]
  · have e : ci a b = 1 := by unfold ci; rw [if_pos (by omega)]; unfold cmpI; rw [if_neg (by omega), if_pos (by omega)]
    rw [e, if_neg (by omega), if_neg (by omega), if_neg (by omega), if_pos kb]
    simp [cz]
  · have e : ci a b = cz (nums a.s) (nums b.s) := by unfold ci; rw [if_neg (by omega), if_neg (by omega), cmpT_cz]
    rw [e, if_neg (by omega), if_neg (by omega), if_neg (by omega), if_neg (by omega)]
    simp only [List.cons_append, List.append_assoc, List.nil_append]
    rw [cz, if_neg (by omega), if_neg (by omega), cz_text _ _ _ _ (fun z hz => (vt_rng sa z hz).1) (fun z hz => (vt_rng sb z hz).1)]
theorem cz_kZ : ∀ (xs ys : List Vl), (∀ v ∈ xs, vv v = true) → (∀ v ∈ ys, vv v = true) → cz (xs.flatMap kz) (ys.flatMap kz) = crF ci xs ys
  | [], [], _, _ => rfl
  | [], b :: ys, _, h => by
    have := ekb_size (h b (by simp))
    unfold ekb at this
    rw [strOfNums_size] at this
    rw [List.flatMap_nil, List.flatMap_cons]
    cases hb : kz b with
    | nil => rw [hb] at this; simp at this
    | cons z zs => rfl
  | a :: xs, [], h, _ => by
    have := ekb_size (h a (by simp))
    unfold ekb at this
    rw [strOfNums_size] at this
    rw [List.flatMap_nil, List.flatMap_cons]
    cases hb : kz a with
    | nil => rw [hb] at this; simp at this
    | cons z zs => rfl
  | a :: xs, b :: ys, h, k => by
    rw [List.flatMap_cons, List.flatMap_cons, cz_kz (h a (by simp)) (k b (by simp)), cz_kZ xs ys (fun v hv => h v (by simp [hv])) (fun v hv => k v (by simp [hv]))]
    rfl
/-- Keys are ordered like rows. -/
theorem ek_order {xs ys : List Vl} (hx : ∀ v ∈ xs, vv v = true) (hy : ∀ v ∈ ys, vv v = true) : cmpT (ek xs) (ek ys) = crF ci xs ys := by
  rw [cmpT_cz]
  unfold ek
  rw [nums_son (kZ_rng hx), nums_son (kZ_rng hy), cz_kZ xs ys hx hy]
/-- A key has one row. -/
theorem ek_inj {xs ys : List Vl} (hx : ∀ v ∈ xs, vv v = true) (hy : ∀ v ∈ ys, vv v = true) (h : ek xs = ek ys) : xs = ys := by
  have := ek_order hx hy
  rw [h, cmpT_same rfl] at this
  exact (crF_zero xs ys fun a ha b hb => ci_zero (hx a ha) (hy b hb)).1 this.symm
/-- A text begins with the key of one value at most. -/
theorem ekb_free {a b : Vl} (ha : vv a = true) (hb : vv b = true) {p q : ByteArray} (h : ekb a ++ p = ekb b ++ q) : a = b ∧ p = q := by
  have h1 : kz a ++ nums p = kz b ++ nums q := by
    have := congrArg nums h
    rw [show ekb a ++ p = strOfNums (kz a ++ nums p) by rw [son_app, son_nums]; rfl, show ekb b ++ q = strOfNums (kz b ++ nums q) by rw [son_app, son_nums]; rfl, nums_son, nums_son] at this
    · exact this
    · intro z hz
      rcases List.mem_append.1 hz with hz | hz
      · exact kz_rng hb z hz
      · exact nums_rng z hz
    · intro z hz
      rcases List.mem_append.1 hz with hz | hz
      · exact kz_rng ha z hz
      · exact nums_rng z hz
  have h2 := cz_kz ha hb (nums p) (nums q)
  rw [h1, cz_same] at h2
  have h3 : ci a b = 0 := by
    by_cases h0 : ci a b = 0
    · exact h0
    · rw [if_neg h0] at h2
      exact h2.symm
  have h4 := (ci_zero ha hb).1 h3
  subst h4
  exact ⟨rfl, nums_inj (List.append_cancel_left h1)⟩
/-- .. and so of one row at most, as far as two rows both go. -/
theorem ek_front : ∀ {xs ys : List Vl} {p : ByteArray}, (∀ v ∈ xs, vv v = true) → (∀ v ∈ ys, vv v = true) → ek xs ++ p = ek ys → ∃ zs, ys = xs ++ zs ∧ ek zs = p
  | [], ys, p, _, _, h => ⟨ys, rfl, by rw [← h, ek_nil, ByteArray.empty_append]⟩
  | a :: xs, [], p, h, _, k => by
    have h1 := ekb_size (h a (by simp))
    rw [ek_cons, ek_nil] at k
    have := congrArg ByteArray.size k
    rw [ByteArray.size_append, ByteArray.size_append, show ByteArray.empty.size = 0 from rfl] at this
    omega
  | a :: xs, b :: ys, p, h, k, e => by
    rw [ek_cons, ek_cons, ByteArray.append_assoc] at e
    obtain ⟨rfl, e2⟩ := ekb_free (h a (by simp)) (k b (by simp)) e
    obtain ⟨zs, h1, h2⟩ := ek_front (fun v hv => h v (by simp [hv])) (fun v hv => k v (by simp [hv])) e2
    exact ⟨zs, by rw [h1]; rfl, h2⟩

open Classical in
/-- The row of a key, if there is one. -/
noncomputable def DK (s : ByteArray) : Option (List Vl) := if h : ∃ vs, vrB vs = true ∧ ek vs = s then some h.choose else none
theorem DK_some {s : ByteArray} {vs : List Vl} (h : vrB vs = true) (he : ek vs = s) : DK s = some vs := by
  unfold DK
  have hx : ∃ vs, vrB vs = true ∧ ek vs = s := ⟨vs, h, he⟩
  rw [dif_pos hx]
  have := hx.choose_spec
  rw [ek_inj (vr_mem this.1) (vr_mem h) (this.2.trans he.symm)]
theorem DK_none {s : ByteArray} (h : ∀ vs, vrB vs = true → ek vs ≠ s) : DK s = none := by
  unfold DK
  rw [dif_neg]
  rintro ⟨vs, h1, h2⟩
  exact h vs h1 h2
theorem DK_row {s : ByteArray} {vs : List Vl} (h : DK s = some vs) : vrB vs = true ∧ ek vs = s := by
  unfold DK at h
  split at h
  · rename_i hx
    cases h
    exact hx.choose_spec
  · cases h

end Go.Proofs.Ytoofioemjgeifaa
