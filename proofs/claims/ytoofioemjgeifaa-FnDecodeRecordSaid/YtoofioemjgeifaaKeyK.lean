/-
  DecodeKey of the program: it hands back the row of a key, if there is one. Conditions: the text is no longer than Go lets one be.
-/
import Derived.Test.YtoofioemjgeifaaKeyV
import Derived.Test.YtoofioemjgeifaaVRow
namespace Go.Proofs.Ytoofioemjgeifaa
open Go.RowKit
set_option linter.unusedVariables false
set_option linter.unusedSimpArgs false

theorem encV_one : ∀ x : Vl, ∀ u ∈ encV x, u.oneCell' = true := by
  intro x u hu
  simp [encV] at hu
  rcases hu with rfl | rfl | rfl <;> rfl
def Key1 (s : ByteArray) (w : World) (e : Ending) (w' : World) : Prop :=
  Below w.heap.size w w' ∧ ((∃ vs v, DK s = some vs ∧ e = .returned (.tuple #[v, .bool true]) ∧ w'.ownsRow w.heap.size 54 3 v vs.length (vs.flatMap encV)) ∨ (DK s = none ∧ e = .returned (.tuple #[.slice none 0 0, .bool false])))
theorem vr_len {vs : List Vl} (h : vrB vs = true) : vs.length ≤ 5 := by
  unfold vrB at h
  rw [Bool.and_eq_true, decide_eq_true_eq] at h
  exact h.1
theorem vr_of {vs : List Vl} (h : ∀ v ∈ vs, vv v = true) (hl : vs.length ≤ 5) : vrB vs = true := by
  unfold vrB
  rw [Bool.and_eq_true, decide_eq_true_eq, List.all_eq_true]
  exact ⟨hl, h⟩
theorem dk_fail {s t : ByteArray} {pre : List Vl} (h : s = ek pre ++ t) (hp : ∀ v ∈ pre, vv v = true) (ht : 0 < t.size) (hn : NoV t) : DK s = none := by
  refine DK_none fun vs hv he => ?_
  obtain ⟨zs, h1, h2⟩ := ek_front hp (vr_mem hv) (h.symm.trans he.symm)
  cases zs with
  | nil => rw [ek_nil] at h2; rw [← h2] at ht; exact absurd ht (by decide)
  | cons x zs =>
    rw [ek_cons] at h2
    exact hn x _ (vr_mem hv x (by rw [h1]; simp)) h2.symm
theorem dk_full {s t : ByteArray} {pre : List Vl} (h : s = ek pre ++ t) (hp : ∀ v ∈ pre, vv v = true) (ht : 0 < t.size) (hl : pre.length = 5) : DK s = none := by
  refine DK_none fun vs hv he => ?_
  obtain ⟨zs, h1, h2⟩ := ek_front hp (vr_mem hv) (h.symm.trans he.symm)
  have := vr_len hv
  rw [h1, List.length_append] at this
  cases zs with
  | nil => rw [ek_nil] at h2; rw [← h2] at ht; exact absurd ht (by decide)
  | cons x zs => rw [List.length_cons] at this; omega
theorem isV_split {t : ByteArray} {v : Vl} {n : Nat} (h : IsV t v n) : t = ekb v ++ t.extract n t.size := by
  obtain ⟨_, _, hn, he⟩ := h
  rw [← he, ByteArray.extract_append_extract]
  rw [show min 0 n = 0 by omega, show max n t.size = t.size by omega, ByteArray.extract_zero_size]

set_option maxHeartbeats 1000000 in
theorem dkI (s : ByteArray) (w : World) (hm : s.size ≤ 9223372036854775807) :
    Calls Try.prog 24 #[.string s] w (Key1 s w) := by
  obtain ⟨i0, hi, hz0, hz1, hz2⟩ := info_parts infoW
  have hi' := hide hi; have hz0' := hide hz0; have hz1' := hide hz1; have hz2' := hide hz2
  clear hi hz0 hz1 hz2
  go_enter Try.func24, Try.ntmps24
  go_wp2_with fail
  go_loopw [0, 4] (fun u o wr => ∃ (t : ByteArray) (z : Value) (pre : List Vl), u = .string t ∧ o = z ∧ t.size ≤ s.size ∧ pre.length ≤ 5 ∧ Hid (s = ek pre ++ t) ∧ Hid (∀ v ∈ pre, vv v = true) ∧ Below w.heap.size w wr ∧ wr.ownsRow w.heap.size 54 3 z pre.length (pre.flatMap encV)) (fun u _ _ => match u with | .string t => t.size | _ => 0)
  case atStart => exact ⟨s, _, [], rfl, rfl, by omega, by simp, by unfold Hid; rw [ek_nil, ByteArray.empty_append], (fun v hv => by cases hv), Below.refl _ _, ow_nil _ _ _ _⟩
  case round =>
    obtain ⟨t, z, pre, rfl, rfl, hts, hpl, hse, hpv, hb, hown⟩ := hrel
    by_cases hp : 0 < t.size
    · have hp' : (0 : Int) < (t.size : Int) := by omega
      have hgeo : ∀ g, u4.ownBlock = some g → w.heap.size ≤ g := fun g hg => ow_ge hown hg
      go_wp2_with fail
      refine (dvI t _ hp (by omega)).mono ?_
      rintro e w1 ⟨hb1, v, n, ok, rfl, hok, hno⟩
      have hown1 := ow_below hown hb1
      have hb1' := bt hb hb1 hb.size
      clear hb1 hb hown
      obtain ⟨A, c, hu4, hL, hblk⟩ := ow_open (by omega) encV_len hown1
      cases ok
      · have HD := hide (dk_fail hse.out hpv.out hp (hno rfl))
        subst hu4
        go_wp2_with fail
        go_ret2
        exact ⟨hb1'.alloc hb1'.size _, .inr ⟨HD.out, rfl⟩⟩
      · obtain ⟨m, rfl, hV⟩ := hok rfl
        clear hno hok
        by_cases h5 : pre.length = 5
        · have HD := hide (dk_full hse.out hpv.out hp h5)
          have h5' : (pre.length : Int) = 5 := by omega
          have h5b : ((pre.length : Int) == 5) = true := by rw [beq_iff_eq]; exact h5'
          subst hu4
          clear h5 h5'
          go_wp2_with fail
          go_ret2
          exact ⟨hb1'.alloc hb1'.size _, .inr ⟨HD.out, rfl⟩⟩
        · have h5b : ((pre.length : Int) == 5) = false := by rw [beq_eq_false_iff_ne]; omega
          subst hu4
          have hm0 := hV.2.1
          have hm1 := hV.2.2.1
          have hm2 : (m : Int) ≤ (t.size : Int) := by omega
          have hsp := isV_split hV
          have hse2 : Hid (s = ek (pre ++ [v]) ++ t.extract m t.size) := by
            unfold Hid
            rw [ek_app, ek_one, ByteArray.append_assoc, ← hsp]
            exact hse.out
          have hpv2 : Hid (∀ x ∈ pre ++ [v], vv x = true) := fun x hx => by
            rcases List.mem_append.1 hx with hx | hx
            · exact hpv.out x hx
            · obtain rfl : x = v := by simpa using hx
              exact hV.1
          have hownA := ow_below hown1 ((Below.refl _ w1).alloc (Nat.le_refl _) (.cells #[.int .i64 v.k, .int .i64 v.n, .string v.s] 54))
          have hbA := hb1'.alloc hb1'.size (.cells #[.int .i64 v.k, .int .i64 v.n, .string v.s] 54)
          have hsA := hbA.size
          clear hse hpv hsp hV hblk hL hown1 hb1'
          go_wp2_with (first
            | (at_builtin; refine wpList_elem Try.underlying24 hi'.out hz0'.out hz1'.out hz2'.out rfl (by decide) (by decide) encV_len encV_one rfl _ _ rfl w.heap.size _ pre rfl hownA v _ rfl _ (World.size_alloc _ _) rfl (by omega) hsA ?_; intro v' w2 hown' hg2; clear hownA))
          have hz : (t.extract m t.size).size = t.size - m := by rw [ByteArray.size_extract]; omega
          go_roundw
          case rel => exact ⟨t.extract m t.size, _, pre ++ [v], rfl, rfl, by omega, by simp; omega, hse2, hpv2, hbA.grown hg2 hsA hgeo, hown'⟩
          case measure => simp only; omega
    · have ht0 : t = ByteArray.empty := ByteArray.ext (Array.eq_empty_of_size_eq_zero (show t.size = 0 by omega))
      have HD : Hid (DK s = some pre) := DK_some (vr_of hpv.out hpl) (by rw [hse.out, ht0, ByteArray.append_empty])
      clear ht0
      have hp' : ¬ ((0 : Int) < (t.size : Int)) := by omega
      go_wp2_with fail
      go_ret2
      exact ⟨hb, .inl ⟨pre, _, HD.out, rfl, hown⟩⟩

end Go.Proofs.Ytoofioemjgeifaa
