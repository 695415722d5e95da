/-
  The bytes of a text as a list of numbers, and where the first byte 1 stands. Plain lemmas, and the walk of strings.IndexByte. No conditions.
-/
import Derived.Test.YtoofioemjgeifaaKeyD
import Derived.Lib.Bytealg
import Derived.Lib.Walk
namespace Go.Proofs.Ytoofioemjgeifaa
open Go.RowKit
set_option linter.unusedVariables false
set_option linter.unusedSimpArgs false

theorem nums_app (a b : ByteArray) : nums (a ++ b) = nums a ++ nums b := by simp [nums]
theorem nums_ext (s : ByteArray) (i j : Nat) : nums (s.extract i j) = ((nums s).take j).drop i := by
  unfold nums
  rw [ByteArray.data_extract, Array.toList_extract, List.extract_eq_drop_take', ← List.map_take, ← List.map_drop]
theorem nums_at {s : ByteArray} {k : Nat} (hk : k < s.size) : (nums s)[k]? = some (s[k].toNat : Int) := by
  unfold nums
  rw [List.getElem?_map, List.getElem?_eq_getElem (by simpa using hk)]
  rfl
theorem nums_ekb {v : Vl} (h : vv v = true) : nums (ekb v) = kz v := by
  unfold ekb
  rw [nums_son (kz_rng h)]

set_option maxHeartbeats 1000000 in
set_option maxRecDepth 100000 in
theorem slIndex (s : ByteArray) (c : Int) (w : World) :
    Calls Try.prog 69 #[.string s, .int .u8 c] w fun e w' => e = .returned (.int .i64 (Lib.indexByte s.data.toList c.toNat.toUInt8)) ∧ w' = w := by
  go_enter Try.func69, Try.ntmps69
  go_wp2
  rw [run_callFunc_extern Try.func70 (by kernel_rfl) (by kernel_rfl) (by kernel_rfl) (e := Extern.BytealgIndexByte.indexByte) (by kernel_rfl), Lib.run_indexByteString]
  simp only [Result.andThen]
  rw [Oper.upon_value]
  go_wp2
  go_ret
  exact ⟨rfl, rfl⟩
theorem index_split (c : UInt8) : ∀ l : List UInt8, (Lib.indexByte l c = -1 ∧ c ∉ l) ∨ ∃ p q, l = p ++ c :: q ∧ c ∉ p ∧ Lib.indexByte l c = p.length
  | [] => .inl ⟨rfl, by simp⟩
  | b :: l => by
    unfold Lib.indexByte
    cases hb : (b == c)
    · have hne : b ≠ c := by simpa using hb
      rcases index_split c l with ⟨h1, h2⟩ | ⟨p, q, h1, h2, h3⟩
      · left
        refine ⟨by rw [h1]; rfl, ?_⟩
        simp only [List.mem_cons, not_or]
        exact ⟨fun e => hne e.symm, h2⟩
      · right
        refine ⟨b :: p, q, by rw [h1]; rfl, ?_, ?_⟩
        · simp only [List.mem_cons, not_or]
          exact ⟨fun e => hne e.symm, h2⟩
        · have : (Lib.indexByte l c == -1) = false := by rw [h3]; simp
          rw [this]
          simp only [Bool.false_eq_true, if_false, h3, List.length_cons]
          omega
    · have he : b = c := by simpa using hb
      right
      exact ⟨[], l, by rw [he]; rfl, by simp, rfl⟩

/-- What strings.IndexByte tells of the byte 1. -/
def Ix (s : ByteArray) (z : Int) : Prop := (z = -1 ∧ (1 : Int) ∉ nums s) ∨ ∃ (n : Nat) (p q : List Int), z = n ∧ n = p.length ∧ nums s = p ++ 1 :: q ∧ (1 : Int) ∉ p
theorem one_mem {l : List UInt8} : (1 : Int) ∈ l.map (fun c => (c.toNat : Int)) ↔ (1 : UInt8) ∈ l := by
  rw [List.mem_map]
  constructor
  · rintro ⟨c, hc, h⟩
    have : c = 1 := UInt8.toNat_inj.1 (by show c.toNat = 1; omega)
    exact this ▸ hc
  · intro h
    exact ⟨1, h, rfl⟩
theorem ix_any (s : ByteArray) : Ix s (Lib.indexByte s.data.toList (1 : Int).toNat.toUInt8) := by
  rcases index_split 1 s.data.toList with ⟨h1, h2⟩ | ⟨p, q, h1, h2, h3⟩
  · exact .inl ⟨h1, fun h => h2 (one_mem.1 h)⟩
  · refine .inr ⟨p.length, p.map (fun c => (c.toNat : Int)), q.map (fun c => (c.toNat : Int)), h3, by simp, ?_, fun h => h2 (one_mem.1 h)⟩
    unfold nums
    rw [h1, List.map_append, List.map_cons]
    rfl
def Ixd (s : ByteArray) (w : World) (e : Ending) (w' : World) : Prop := ∃ z : Int, e = .returned (.int .i64 z) ∧ Ix s z ∧ w' = w
theorem sIndex (s : ByteArray) (w : World) : Calls Try.prog 62 #[.string s, .int .u8 1] w (Ixd s w) := by
  have hx := hide (ix_any s)
  go_enter Try.func62, Try.ntmps62
  go_wp2_with fail
  refine (slIndex _ _ _).mono ?_
  rintro e w' ⟨rfl, rfl⟩
  go_wp2_with fail
  go_ret
  exact ⟨_, rfl, hx.out, rfl⟩

/-! ### the value with which a text begins -/
theorem cut1 {p p' q q' : List Int} (h : p ++ 1 :: q = p' ++ 1 :: q') (hp : (1 : Int) ∉ p) (hp' : (1 : Int) ∉ p') : p = p' ∧ q = q' := by
  induction p generalizing p' with
  | nil =>
    cases p' with
    | nil => simp at h; exact ⟨rfl, h⟩
    | cons a p' => simp at h; exact absurd h.1 (fun e => hp' (by rw [e]; simp))
  | cons a p ih =>
    cases p' with
    | nil => simp at h; exact absurd h.1.symm (fun e => hp (by rw [e]; simp))
    | cons b p' =>
      simp at h
      obtain ⟨h1, h2⟩ := ih h.2 (fun e => hp (by simp [e])) (fun e => hp' (by simp [e]))
      exact ⟨by rw [h.1, h1], h2⟩
/-- No value stands at the beginning. -/
def NoV (s : ByteArray) : Prop := ∀ x q, vv x = true → s ≠ ekb x ++ q
theorem noV_of {s : ByteArray} (h : ∀ x (Q : List Int), vv x = true → nums s ≠ kz x ++ Q) : NoV s := fun x q hx he => by
  have := h x (nums q) hx
  rw [he, nums_app, nums_ekb hx] at this
  exact this rfl
/-- This value stands at the beginning. -/
def IsV (s : ByteArray) (v : Vl) (n : Nat) : Prop := vv v = true ∧ 0 < n ∧ n ≤ s.size ∧ s.extract 0 n = ekb v
theorem isV_of {s : ByteArray} {v : Vl} {n : Nat} (hv : vv v = true) (h : (nums s).take n = kz v) (hn : n ≤ s.size) (h0 : 0 < n) : IsV s v n := by
  refine ⟨hv, h0, hn, nums_inj ?_⟩
  rw [nums_ext, List.drop_zero, h, nums_ekb hv]
theorem kz_head {x : Vl} (hx : vv x = true) : ((kz x)[0]? = some 97 ∧ x.k = 0) ∨ ((kz x)[0]? = some 98 ∧ x.k = 1) ∨ ((kz x)[0]? = some 99 ∧ x.k = 2) := by
  unfold kz
  rcases vv_kind hx with ⟨k, _⟩ | ⟨k, _⟩ | ⟨k, _⟩
  · rw [if_pos k]; exact .inl ⟨rfl, k⟩
  · rw [if_neg (by omega), if_pos k]; exact .inr (.inl ⟨rfl, k⟩)
  · rw [if_neg (by omega), if_neg (by omega)]; exact .inr (.inr ⟨rfl, k⟩)
theorem kz_pos {x : Vl} (hx : vv x = true) : 0 < (kz x).length := by
  have := (ekb_size hx).1
  unfold ekb at this
  rw [strOfNums_size] at this
  omega
/-- By the first byte. -/
theorem head_of_key {s : ByteArray} {x : Vl} {Q : List Int} (h0 : 0 < s.size) (hx : vv x = true) (h : nums s = kz x ++ Q) : ((s[0].toNat : Int) = 97 ∧ x.k = 0) ∨ ((s[0].toNat : Int) = 98 ∧ x.k = 1) ∨ ((s[0].toNat : Int) = 99 ∧ x.k = 2) := by
  have h1 := nums_at h0
  rw [h, List.getElem?_append_left (kz_pos hx)] at h1
  rcases kz_head hx with ⟨a, b⟩ | ⟨a, b⟩ | ⟨a, b⟩
  · rw [a] at h1; injection h1 with h1; exact .inl ⟨h1.symm, b⟩
  · rw [a] at h1; injection h1 with h1; exact .inr (.inl ⟨h1.symm, b⟩)
  · rw [a] at h1; injection h1 with h1; exact .inr (.inr ⟨h1.symm, b⟩)
theorem kz_one {x : Vl} (h : x.k = 1) : kz x = [98, 48 + (x.n + 999999) / 200000, 32 + (x.n + 999999) / 4000 % 50, 32 + (x.n + 999999) / 80 % 50, 32 + (x.n + 999999) % 80] := by
  unfold kz
  rw [if_neg (by omega), if_pos h]
theorem kz_two {x : Vl} (h : x.k = 2) : kz x = 99 :: (nums x.s ++ [1]) := by
  unfold kz
  rw [if_neg (by omega), if_neg (by omega)]
theorem list5 {s : ByteArray} (h : 5 ≤ s.size) : (nums s).take 5 = [(s[0].toNat : Int), (s[1].toNat : Int), (s[2].toNat : Int), (s[3].toNat : Int), (s[4].toNat : Int)] := by
  apply List.ext_getElem?
  intro i
  rw [List.getElem?_take]
  match i with
  | 0 => rw [if_pos (by omega), nums_at (by omega)]; rfl
  | 1 => rw [if_pos (by omega), nums_at (by omega)]; rfl
  | 2 => rw [if_pos (by omega), nums_at (by omega)]; rfl
  | 3 => rw [if_pos (by omega), nums_at (by omega)]; rfl
  | 4 => rw [if_pos (by omega), nums_at (by omega)]; rfl
  | i + 5 => rw [if_neg (by omega)]; rfl

theorem dec_num_yes {s : ByteArray} (h : 5 ≤ s.size) (h0 : (s[0].toNat : Int) = 98) (hd : dnOk ((s[1].toNat : Int) - 48) ((s[2].toNat : Int) - 32) ((s[3].toNat : Int) - 32) ((s[4].toNat : Int) - 32) = true) :
    IsV s ⟨1, dnum ((s[1].toNat : Int) - 48) ((s[2].toNat : Int) - 32) ((s[3].toNat : Int) - 32) ((s[4].toNat : Int) - 32), ByteArray.empty⟩ 5 := by
  have hl := list5 h
  rw [h0] at hl
  generalize (s[1].toNat : Int) = a at *
  generalize (s[2].toNat : Int) = b at *
  generalize (s[3].toNat : Int) = c at *
  generalize (s[4].toNat : Int) = d at *
  unfold dnOk at hd
  simp only [Bool.and_eq_true, decide_eq_true_eq] at hd
  refine isV_of ?_ ?_ h (by omega)
  · unfold vv vvB
    rw [if_neg (by simp), if_pos rfl, show emp ByteArray.empty = true by decide +kernel, Bool.and_true, rng_iff]
    refine ⟨?_, hd.2⟩
    show (-999999 : Int) ≤ dnum _ _ _ _
    unfold dnum
    omega
  · rw [hl, kz_one rfl]
    have hm : dnum (a - 48) (b - 32) (c - 32) (d - 32) + 999999 = (((a - 48) * 50 + (b - 32)) * 50 + (c - 32)) * 80 + (d - 32) := by unfold dnum; omega
    dsimp only
    rw [hm]
    simp only [List.cons.injEq, true_and, and_true]
    omega
theorem dec_num_no {s : ByteArray} (h : 5 ≤ s.size) (h0 : (s[0].toNat : Int) = 98) (hd : dnOk ((s[1].toNat : Int) - 48) ((s[2].toNat : Int) - 32) ((s[3].toNat : Int) - 32) ((s[4].toNat : Int) - 32) = false) : NoV s := by
  refine noV_of fun x Q hx he => ?_
  rcases head_of_key (by omega) hx he with ⟨a, _⟩ | ⟨_, hk⟩ | ⟨a, _⟩
  · omega
  · have hl := list5 h
    rw [he, kz_one hk] at hl
    simp only [List.cons_append, List.nil_append, List.take_succ_cons, List.take_zero, List.cons.injEq, and_true] at hl
    rcases vv_kind hx with ⟨k, _⟩ | ⟨_, n0, n1, _⟩ | ⟨k, _⟩
    · omega
    · have hyes : dnOk ((s[1].toNat : Int) - 48) ((s[2].toNat : Int) - 32) ((s[3].toNat : Int) - 32) ((s[4].toNat : Int) - 32) = true := by
        obtain ⟨_, e1, e2, e3, e4⟩ := hl
        rw [← e1, ← e2, ← e3, ← e4]
        unfold dnOk dnum
        simp only [Bool.and_eq_true, decide_eq_true_eq]
        omega
      rw [hyes] at hd
      cases hd
    · omega
  · omega
theorem dec_num_short {s : ByteArray} (hs : 0 < s.size) (h : s.size < 5) (h0 : (s[0].toNat : Int) = 98) : NoV s := by
  refine noV_of fun x Q hx he => ?_
  rcases head_of_key (by omega) hx he with ⟨a, _⟩ | ⟨_, hk⟩ | ⟨a, _⟩
  · omega
  · have := congrArg List.length he
    rw [kz_one hk, nums_len] at this
    simp at this
    omega
  · omega
theorem dec_none {s : ByteArray} (hs : 0 < s.size) (h0 : (s[0].toNat : Int) = 97) : IsV s ⟨0, 0, ByteArray.empty⟩ 1 := by
  refine isV_of (by decide +kernel) ?_ (by omega) (by omega)
  apply List.ext_getElem?
  intro i
  rw [List.getElem?_take]
  match i with
  | 0 => rw [if_pos (by omega), nums_at (by omega), h0]; rfl
  | i + 1 => rw [if_neg (by omega)]; rfl
theorem dec_other {s : ByteArray} (hs : 0 < s.size) (h0 : (s[0].toNat : Int) ≠ 97) (h1 : (s[0].toNat : Int) ≠ 98) (h2 : (s[0].toNat : Int) ≠ 99) : NoV s := by
  refine noV_of fun x Q hx he => ?_
  rcases head_of_key (by omega) hx he with ⟨a, _⟩ | ⟨a, _⟩ | ⟨a, _⟩ <;> contradiction
theorem text_one {t : ByteArray} (h : vtB t = true) : (1 : Int) ∉ nums t := fun hm => by have := vt_rng h 1 hm; omega
theorem dec_text_none {s : ByteArray} (hs : 0 < s.size) (h0 : (s[0].toNat : Int) = 99) (h1 : (1 : Int) ∉ nums s) : NoV s := by
  refine noV_of fun x Q hx he => ?_
  rcases head_of_key (by omega) hx he with ⟨a, _⟩ | ⟨a, _⟩ | ⟨_, hk⟩
  · omega
  · omega
  · refine h1 ?_
    rw [he, kz_two hk]
    simp
theorem split99 {s : ByteArray} {n : Nat} {p q : List Int} (hs : 0 < s.size) (h0 : (s[0].toNat : Int) = 99) (hn : n = p.length) (h : nums s = p ++ 1 :: q) (hp : (1 : Int) ∉ p) :
    1 ≤ n ∧ n + 1 ≤ s.size ∧ p = 99 :: nums (s.extract 1 n) := by
  have h1 := nums_at hs
  rw [h0] at h1
  have hl : (nums s).length = s.size := nums_len s
  rw [h] at h1 hl
  cases p with
  | nil => simp at h1
  | cons a p =>
    simp at h1 hl
    subst h1 hn
    refine ⟨by simp, by simp; omega, ?_⟩
    rw [nums_ext, h]
    simp
theorem dec_text_yes {s : ByteArray} {n : Nat} {p q : List Int} (hs : 0 < s.size) (h0 : (s[0].toNat : Int) = 99) (hn : n = p.length) (h : nums s = p ++ 1 :: q) (hp : (1 : Int) ∉ p) (hv : vtB (s.extract 1 n) = true) :
    IsV s ⟨2, 0, s.extract 1 n⟩ (n + 1) := by
  obtain ⟨h1, h2, h3⟩ := split99 hs h0 hn h hp
  refine isV_of ?_ ?_ h2 (by omega)
  · unfold vv vvB
    rw [if_neg (by simp), if_neg (by simp), if_pos rfl, hv]
    rfl
  · rw [kz_two rfl, h]
    dsimp only
    rw [List.take_append, List.take_of_length_le (by omega), show n + 1 - p.length = 1 by omega, h3]
    simp
theorem dec_text_no {s : ByteArray} {n : Nat} {p q : List Int} (hs : 0 < s.size) (h0 : (s[0].toNat : Int) = 99) (hn : n = p.length) (h : nums s = p ++ 1 :: q) (hp : (1 : Int) ∉ p) (hv : vtB (s.extract 1 n) = false) : NoV s := by
  obtain ⟨h1, h2, h3⟩ := split99 hs h0 hn h hp
  refine noV_of fun x Q hx he => ?_
  rcases head_of_key (by omega) hx he with ⟨a, _⟩ | ⟨a, _⟩ | ⟨_, hk⟩
  · omega
  · omega
  · rcases vv_kind hx with ⟨k, _⟩ | ⟨k, _⟩ | ⟨_, _, hs'⟩
    · omega
    · omega
    · rw [h, kz_two hk, show (99 :: (nums x.s ++ [1])) ++ Q = (99 :: nums x.s) ++ 1 :: Q by simp] at he
      have h5 := text_one hs'
      obtain ⟨e1, _⟩ := cut1 he hp (by simp only [List.mem_cons, not_or]; exact ⟨by omega, h5⟩)
      rw [h3] at e1
      simp only [List.cons.injEq, true_and] at e1
      rw [nums_inj e1, hs'] at hv
      cases hv

end Go.Proofs.Ytoofioemjgeifaa
