/-
  Drawing two rows of values: DrawCompareRows hands back two rows of at most seven values with bounded parts. Conditions: the argument reads as a list of bytes.
-/
import Derived.Test.YtngmiaglbmkbcaaVRow
namespace Go.Proofs.Ytngmiaglbmkbcaa
open Go.RowKit
set_option linter.unusedVariables false
set_option linter.unusedSimpArgs false

def Two (w : World) (e : Ending) (w' : World) : Prop :=
  ∃ A c xs B d ys, e = .returned (.tuple #[.slice A xs.length c, .slice B ys.length d]) ∧ Lst encV 3 w.heap.size w' A c xs ∧ Lst encV 3 w.heap.size w' B d ys ∧ xs.length ≤ 7 ∧ ys.length ≤ 7 ∧ (∀ v ∈ xs, Sm v) ∧ (∀ v ∈ ys, Sm v) ∧ Below w.heap.size w w'
theorem encV_one1 : ∀ x : Vl, ∀ u ∈ encV x, u.oneCell' = true := by
  intro x u hu
  simp [encV] at hu
  rcases hu with rfl | rfl | rfl <;> rfl

set_option maxHeartbeats 1000000 in
theorem drawRows (A : Option Addr) (c : Nat) (zs : List Int) (w : World) (h : Bytes w A c zs) :
    Calls Try.prog 28 #[.slice A zs.length c] w (Two w) := by
  obtain ⟨i0, hi, hz0, hz1, hz2⟩ := info_parts infoW
  have hi' := hide hi; have hz0' := hide hz0; have hz1' := hide hz1; have hz2' := hide hz2
  clear hi hz0 hz1 hz2
  go_enter Try.func28, Try.ntmps28
  go_wp2_with fail
  refine (new_any A c zs w h.rl h.rng h.cap h.max h.blk).mono ?_
  rintro e w1 ⟨rfl, hr, hb⟩
  go_wp2_with fail
  refine (anyRow_any _ _ _ w1 hr (by omega)).mono ?_
  rintro e w2 ⟨A2, c2, xs, rfl, hL, hl6, hsm, hr2, hg2⟩
  have hb2 : Below w.heap.size w w2 := below_of_grown hb hg2 (Nat.le_refl _) hb.size
  have hL' : Lst encV 3 w.heap.size w2 A2 c2 xs := hL.mono hb.size
  have hlt1 := hr.lt
  go_wp2_with fail
  refine (pick_any _ _ _ _ w2 hr2 (by omega) (by omega) (by omega)).mono ?_
  rintro e w3 ⟨q, rfl, q0, q1, hr3, hg3⟩
  have hL3 := hL.kept hg3 (fun g e => by cases e; exact hlt1)
  have hb3 : Below w.heap.size w w3 := below_of_grown hb2 hg3 (Nat.le_refl _) hb2.size
  clear hL' hL hb2 hr2 hg3 q1 hg2
  have hlt3 := hr3.lt
  have hL3w : Lst encV 3 w.heap.size w3 A2 c2 xs := hL3.mono hb.size
  by_cases hq : q = 0 ∧ 0 < xs.length
  · obtain ⟨rfl, hx⟩ := hq
    have hx' : (0 : Int) < (xs.length : Int) := by omega
    have hA : ∃ g off, A2 = some ⟨g, off, none⟩ := by
      obtain ⟨g, off, e, _⟩ := hL3.rl.at hx
      exact ⟨g, off, e⟩
    obtain ⟨g, off, rfl⟩ := hA
    have o0 := ow_empty w3 (w3.alloc (.cells #[] 28)) 28 3 (heap_alloc_new _ _)
    have hnew : ∀ j u, ((xs.take (xs.length - 1)).flatMap encV)[j]? = some u → (w3.alloc (.cells #[] 28)).cell? ((⟨g, off, none⟩ : Addr).add j) = some u := by
      intro j u hu
      rw [add_off]
      have hz : j < (xs.length - 1) * 3 := by
        have := (List.getElem?_eq_some_iff.1 hu).1
        rw [length_flatMap_size encV_len, List.length_take] at this
        omega
      have hj : j = j / 3 * 3 + j % 3 := by omega
      have hk : j / 3 < xs.length := by omega
      obtain ⟨b', off', e, hc⟩ := (hL3.rl.alloc (.cells #[] 28)).at hk
      cases e
      have h2 : ((xs.take (xs.length - 1)).flatMap encV)[j / 3 * 3 + j % 3]? = (encV xs[j / 3])[j % 3]? := by
        have h3 : j % 3 < (encV xs[j / 3]).length := by rw [encV_len]; omega
        rw [List.getElem?_eq_getElem h3]
        exact getElem?_flatMap_size encV_len _ _ _ xs[j / 3] _ (by rw [List.getElem?_take_of_lt (by omega), List.getElem?_eq_getElem hk]) (List.getElem?_eq_getElem h3)
      rw [hj] at hu
      rw [h2] at hu
      have := hc (j % 3) u hu
      rw [show off + j / 3 * 3 + j % 3 = off + j by omega] at this
      exact this
    have hcp := hL3.cap
    have hcx := hL3.max
    have b1 : (1 : Int) ≤ (xs.length : Int) := by omega
    have b2 : (xs.length : Int) - 1 ≤ (c2 : Int) := by omega
    have hr3' := hr3.alloc (.cells #[] 28)
    have hL3' := hL3w.alloc (.cells #[] 28)
    have hb3' := hb3.alloc hb3.size (.cells #[] 28)
    go_wp2_with (first
      | (at_builtin; refine wpList_append_own _ rfl _ _ 38 rfl w3.heap.size 28 i0 (.agg #[.int .i64 0, .int .i64 0, .string ByteArray.empty]) 3 32 Try.underlying38 hi'.out hz0'.out hz1'.out hz2'.out rfl (by decide) _ _ _ rfl o0 ⟨g, off, none⟩ (xs.length - 1) c2 ((xs.take (xs.length - 1)).flatMap encV) rfl (by rw [length_flatMap_size encV_len, List.length_take]; omega) hnew (fun u hu => by obtain ⟨x, _, hx⟩ := List.mem_flatMap.1 hu; exact encV_one1 x u hx) (by unfold maxLen; omega) (by omega) (by simp) ?_; intro v1 u1 o1 g1 _))
    have hown1 := o1
    have hb1s := hb.size
    have hrow : ∀ g', (Value.slice (some ⟨w3.heap.size, 0, none⟩) 0 0).ownBlock = some g' → g' = w3.heap.size := fun g' e => by simpa [Value.ownBlock] using e.symm
    have hr4 := hr3'.kept g1 (fun g e => by have := hrow g e; omega)
    have hL4 := hL3'.kept2 g1 (fun g' b e hb' => by have := hrow g' e; have := (hL3w.blk b hb').2; omega)
    have hs3 := hb3.size
    have hb4 : Below w.heap.size w u1 := hb3'.grown g1 (by simp; omega) (fun g e => by have := hrow g e; omega)
    have hu1 : w3.heap.size < u1.heap.size := by have := g1.size; simp at this; omega
    have hown2 : u1.ownsRow w3.heap.size 28 3 v1 (xs.take (xs.length - 1)).length ((xs.take (xs.length - 1)).flatMap encV) := by
      have := hown1
      rw [List.nil_append, Nat.zero_add] at this
      rw [List.length_take, Nat.min_eq_left (by omega)]
      exact this
    clear o0 o1 hnew hr3' hL3' hb3' hr3 hb3 hown1
    refine (random_any _ _ _ u1 hr4 (by omega)).mono ?_
    rintro e w5 ⟨v, rfl, k0, k1, n0, n1, hs, hr5, hg5⟩
    have hown5 := ow_kept hown2 hg5 (fun g e => by cases e; omega)
    have hL5 := hL4.kept2 hg5 (fun g' b e hb' => by cases e; have := (hL3.blk b hb').1; omega)
    have hb5 : Below w.heap.size w w5 := below_of_grown hb4 hg5 (Nat.le_refl _) hb4.size
    have hs5 := hg5.size
    have hge5 : ∀ k, v1.ownBlock = some k → w3.heap.size ≤ k := fun k hk => ow_ge hown2 hk
    have hsmy : ∀ x ∈ xs.take (xs.length - 1) ++ [v], Sm x := fun x hx => by
      rcases List.mem_append.1 hx with hx | hx
      · exact hsm x (List.mem_of_mem_take hx)
      · obtain rfl : x = v := by simpa using hx
        exact ⟨by omega, by omega, by omega, by omega, hs⟩
    have hlen : (xs.take (xs.length - 1)).length ≤ 6 := by rw [List.length_take]; omega
    generalize xs.take (xs.length - 1) = ys at hown5 hsmy hlen
    clear hown2 hr4 hL4 hb4 hr5 hg5 hr
    go_wp2_with (first
      | (at_builtin; refine wpList_elem Try.underlying38 hi'.out hz0'.out hz1'.out hz2'.out rfl (by decide) (by decide) encV_len encV_one1 rfl _ _ rfl w3.heap.size _ ys rfl hown5 v _ rfl _ rfl rfl (by omega) (by omega) ?_; intro v2 w6 o6 g6; clear hown5))
    obtain ⟨B, d, rfl, hL6, -⟩ := ow_open (by omega) encV_len o6
    have hL7 := hL5.kept2 g6 (fun g' b e hb' => by have := hge5 g' e; have := (hL3.blk b hb').2; omega)
    go_ret2
    exact ⟨_, _, xs, B, d, ys ++ [v], rfl, hL7, hL6.mono (by omega), by omega, by simp; omega, hsm, hsmy, hb5.grown g6 hb5.size (fun g e => by have := hge5 g e; omega)⟩
  · have hq' : ((q == 0) && decide ((0 : Int) < (xs.length : Int))) = false := by
      rw [Bool.and_eq_false_iff]
      by_cases h1 : q = 0
      · exact .inr (by rw [decide_eq_false_iff_not]; intro h2; exact hq ⟨h1, by omega⟩)
      · exact .inl (by rw [beq_eq_false_iff_ne]; exact h1)
    go_wp2_with fail
    all_goals
      have hs3 := hb3.size
      refine (anyRow_any _ _ _ w3 hr3 (by omega)).mono ?_
      rintro e w4 ⟨B, d, ys, rfl, hL4, hl4, hsm4, hr4, hg4⟩
      have hL5 := hL3w.kept2 hg4 (fun g' b e hb' => by cases e; have := (hL3.blk b hb').1; omega)
      have hb4 : Below w.heap.size w w4 := below_of_grown hb3 hg4 (Nat.le_refl _) hb3.size
      have hL6 : Lst encV 3 w.heap.size w4 B d ys := hL4.mono (by omega)
      clear hr4 hg4 hL4 hr3
      go_wp2_with fail
      go_ret2
      exact ⟨_, _, xs, B, d, ys, rfl, hL5, hL6, by omega, by omega, hsm, hsm4, hb4⟩

end Go.Proofs.Ytngmiaglbmkbcaa
