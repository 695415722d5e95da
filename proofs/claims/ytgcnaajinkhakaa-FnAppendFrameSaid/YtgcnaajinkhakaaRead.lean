/-
  ReadFrames of the reference: the texts of the frames, in a row of its own. Conditions: the text is no longer than Go lets one be.
-/
import Derived.Test.YtgcnaajinkhakaaNext
import Derived.Laws.AppendOwn
import Derived.RangeFuncBox
namespace Go.Proofs.Ytgcnaajinkhakaa
open Go.RowKit
set_option linter.unusedVariables false
set_option linter.unusedSimpArgs false

def encS (t : ByteArray) : List Value := [.string t]
theorem infoS : (Try.prog.info? 9).map (fun i => (i.zero, i.size, i.bytes)) = some (some (.string ByteArray.empty), 1, 16) := by kernel_rfl

theorem own_below {w w' : World} {B e size n : Nat} {v : Value} {xs : List Value} (h : w.ownsRow B e size v n xs) (hb : Below w.heap.size w w') : w'.ownsRow B e size v n xs := by
  obtain ⟨h1, h2⟩ := h
  refine ⟨h1, ?_⟩
  rcases h2 with h2 | ⟨g, cap, cur, a, b, c, d⟩
  · exact .inl h2
  · exact .inr ⟨g, cap, cur, a, b, (hb.block g (Array.getElem?_eq_some_iff.1 c).1).trans c, d⟩
theorem own_ge {w : World} {B e size n k : Nat} {v : Value} {xs : List Value} (h : w.ownsRow B e size v n xs) (hk : v.ownBlock = some k) : B ≤ k := by
  rcases h.2 with ⟨rfl, _⟩ | ⟨g, cap, cur, rfl, a, _⟩
  · cases hk
  · cases hk; exact a
theorem own_empty (w w' : World) (e : TypeId) (h : w'.heap[w.heap.size]? = some (.cells #[] e (0, 0))) : w'.ownsRow w.heap.size e 1 (.slice (some ⟨w.heap.size, 0, none⟩) 0 0) 0 [] :=
  ⟨rfl, .inr ⟨w.heap.size, 0, #[], rfl, Nat.le_refl _, h, Nat.le_refl _, by omega, rfl, rfl⟩⟩
theorem len_lnF (xs : List ByteArray) : 6 * xs.length ≤ lnF xs := by
  induction xs with
  | nil => simp
  | cons x xs ih => rw [lnF_cons, List.length_cons]; omega
/-- The log behind its first bytes. -/
def rest (s : ByteArray) (at_ : Nat) : ByteArray := s.extract at_ s.size
theorem rest_size {s : ByteArray} {a : Nat} : (rest s a).size = s.size - a := ext_size (Nat.le_refl _)
theorem rest_rest {s : ByteArray} {a n : Nat} (h : a ≤ s.size) : (rest s a).extract n (rest s a).size = rest s (a + n) := by
  unfold rest
  rw [ByteArray.extract_extract, ext_size (Nat.le_refl _)]
  congr 1
  omega
theorem rest_zero (s : ByteArray) : rest s 0 = s := by unfold rest; exact ByteArray.extract_zero_size

theorem readRet {v : Value} {a b : Int} (h : b = a) : Ending.returned (.tuple #[v, .int .i64 a]) = .returned (.tuple #[v, .int .i64 b]) := by rw [h]
def Texts (s : ByteArray) (w : World) (e : Ending) (w' : World) : Prop :=
  Below w.heap.size w w' ∧ ((600 < s.size ∧ e = .returned (.tuple #[.slice none 0 0, .int .i64 (-1)])) ∨
    (s.size ≤ 600 ∧ ∃ v, e = .returned (.tuple #[v, .int .i64 (lnF (RF s))]) ∧ w'.ownsRow w.heap.size 9 1 v (RF s).length ((RF s).map .string)))

set_option maxHeartbeats 1000000 in
theorem readS (s : ByteArray) (w : World) (hs : s.size ≤ 9223372036854775807) :
    Calls Try.prog 22 #[.string s] w (Texts s w) := by
  obtain ⟨i0, hi, hz0, hz1, hz2⟩ := info_parts infoS
  have hi' := hide hi; have hz0' := hide hz0; have hz1' := hide hz1; have hz2' := hide hz2
  clear hi hz0 hz1 hz2
  by_cases hl : s.size ≤ 600
  · go_enter Try.func22, Try.ntmps22
    go_wp2_with fail
    go_loopw [4, 5] (fun v u wr => ∃ (z : Value) (pre : List ByteArray) (a : Nat), v = z ∧ u = .int .i64 a ∧ a ≤ s.size ∧ Below w.heap.size w wr ∧ wr.ownsRow w.heap.size 9 1 z pre.length (pre.map .string) ∧ Hid (lnF pre = a) ∧ Hid (RF s = pre ++ RF (rest s a))) (fun _ u _ => s.size - (intOf u).toNat)
    case atStart => exact ⟨_, [], 0, rfl, rfl, by omega, by go_grown, own_empty _ _ _ (heap_alloc_new _ _), rfl, by rw [rest_zero]; exact rfl⟩
    case round =>
      obtain ⟨z, pre, a, rfl, rfl, ha, hb, hown, hln, hrf⟩ := hrel
      have ha' : (a : Int) ≤ (s.size : Int) := by omega
      have hrs := @rest_size s a
      cases hx : nx (rest s a) with
      | none =>
        have HN := hide (NX_none hx)
        have HR := hide (RF_none hx)
        clear hx
        go_wp2_with fail
        refine (next_any (rest s a) _ (by omega)).mono ?_
        rintro e w1 ⟨rfl, hb1⟩
        rw [HN.out]
        go_wp2_with fail
        go_ret2
        have h1 := hrf.out
        rw [HR.out, List.append_nil] at h1
        refine ⟨bt hb hb1 hb.size, .inr ⟨hl, u4, readRet ?_, ?_⟩⟩
        · rw [h1, hln.out]
        · rw [h1]
          exact own_below hown hb1
      | some n =>
        have HN := hide (NX_some hx)
        have HR := hide (RF_some hx)
        have hle := nx_le hx
        have HL : Hid (lnF (pre ++ [(rest s a).extract 3 (3 + n)]) = a + (n + 6)) := by
          unfold Hid
          rw [lnF_app, hln.out, lnF_cons, ext_size (by omega)]
          simp [lnF]
        have HF : Hid (RF s = (pre ++ [(rest s a).extract 3 (3 + n)]) ++ RF (rest s (a + (n + 6)))) := by
          unfold Hid
          rw [hrf.out, HR.out, rest_rest ha]
          simp
        have hlen := len_lnF pre
        rw [hln.out] at hlen
        clear hx HR
        have hz : ((n : Int) + 6 == 0) = false := by rw [beq_eq_false_iff_ne]; omega
        generalize (rest s a).extract 3 (3 + n) = x at HN HL HF
        go_wp2_with fail
        refine (next_any (rest s a) _ (by omega)).mono ?_
        rintro e w1 ⟨rfl, hb1⟩
        rw [HN.out]
        have hown1 := own_below hown hb1
        have hb1' := bt hb hb1 hb.size
        go_wp2_with (first
          | (at_builtin; refine wpList_append_own _ rfl _ _ 26 rfl w.heap.size 9 i0 (.string ByteArray.empty) 1 16 Try.underlying26 hi'.out hz0'.out hz1'.out hz2'.out rfl (by decide) _ _ _ rfl (hown1.alloc _) ⟨w1.heap.size, 0, none⟩ 1 1 [.string x] rfl rfl ?c1 ?c2 ?c3 ?c4 ?c5 ?_))
        case c1 =>
          intro j u hj
          match j, hj with
          | 0, hj => simp at hj; subst hj; simp [Addr.add]
        case c2 => intro u hu; simp at hu; subst hu; rfl
        case c3 => unfold maxLen; omega
        case c4 => omega
        case c5 => have := hb1'.size; simp; omega
        · intro v' w2 hown' hgrow _
          go_wp2_with fail
          go_roundw
          case rel =>
            refine ⟨v', pre ++ [x], a + (n + 6), rfl, by go_num, by omega, ?_, ?_, HL, HF⟩
            · exact (hb1'.alloc hb1'.size _).grown hgrow (by have := hb1'.size; simp; omega) (fun k e => own_ge hown e)
            · simpa using hown'
          case measure => simp [intOf]; omega
  · go_enter Try.func22, Try.ntmps22
    go_wp2_with fail
    go_ret2
    exact ⟨by go_grown, .inl ⟨by omega, rfl⟩⟩

end Go.Proofs.Ytgcnaajinkhakaa
