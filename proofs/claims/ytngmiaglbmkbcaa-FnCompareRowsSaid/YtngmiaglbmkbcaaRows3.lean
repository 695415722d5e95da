/-
  CompareRows of the program and of the reference: what each answers for any rows. Conditions: the slices read xs lists; texts are no longer than Go lets one be.
-/
import Derived.Test.YtngmiaglbmkbcaaRows2
namespace Go.Proofs.Ytngmiaglbmkbcaa
open Go.RowKit
set_option linter.unusedVariables false
set_option linter.unusedSimpArgs false

def crF (f : Vl → Vl → Int) : List Vl → List Vl → Int
  | [], [] => 0
  | [], _ :: _ => -1
  | _ :: _, [] => 1
  | a :: xs, b :: ys => if f a b = 0 then crF f xs ys else f a b
theorem crF_at (f : Vl → Vl → Int) : ∀ (k : Nat) (xs ys : List Vl) (ha : k < xs.length) (hb : k < ys.length), (∀ t (ht : t < k), f (xs[t]'(by omega)) (ys[t]'(by omega)) = 0) → f xs[k] ys[k] ≠ 0 → crF f xs ys = f xs[k] ys[k]
  | 0, a :: xs, b :: ys, _, _, _, hx => by
    unfold crF
    rw [if_neg (by simpa using hx)]
    rfl
  | k + 1, a :: xs, b :: ys, ha, hb, h, hx => by
    unfold crF
    rw [if_pos (by simpa using h 0 (by omega))]
    simp only [List.getElem_cons_succ] at hx ⊢
    simp only [List.length_cons] at ha hb
    exact crF_at f k xs ys (by omega) (by omega) (fun t ht => by have := h (t + 1) (by omega); simpa using this) hx
theorem crF_end (f : Vl → Vl → Int) : ∀ (xs ys : List Vl), (∀ t (ha : t < xs.length) (hb : t < ys.length), f xs[t] ys[t] = 0) → crF f xs ys = cmpI xs.length ys.length
  | [], [], _ => rfl
  | [], b :: ys, _ => by
    unfold crF cmpI
    rw [if_pos (by simp)]
  | a :: xs, [], _ => by
    unfold crF cmpI
    rw [if_neg (by simp only [List.length_cons, List.length_nil]; omega), if_pos (by simp only [List.length_cons, List.length_nil]; omega)]
  | a :: xs, b :: ys, h => by
    unfold crF
    rw [if_pos (show f a b = 0 from h 0 (by simp) (by simp)), crF_end f xs ys (fun t ha hb => by have := h (t + 1) (by simp; omega) (by simp; omega); simpa using this)]
    unfold cmpI
    simp only [List.length_cons]
    split <;> split <;> first | rfl | omega | (split <;> first | rfl | omega) | skip
    all_goals (try (split <;> first | rfl | omega))
theorem crF_ext {f g : Vl → Vl → Int} : ∀ (xs ys : List Vl), (∀ a ∈ xs, ∀ b ∈ ys, f a b = g a b) → crF f xs ys = crF g xs ys
  | [], [], _ => rfl
  | [], b :: ys, _ => rfl
  | a :: xs, [], _ => rfl
  | a :: xs, b :: ys, h => by
    unfold crF
    rw [h a (by simp) b (by simp), crF_ext xs ys (fun x hx y hy => h x (by simp [hx]) y (by simp [hy]))]
theorem vr_mem {vs : List Vl} (h : vrB vs = true) : ∀ v ∈ vs, vv v = true := by
  unfold vrB at h
  rw [Bool.and_eq_true, List.all_eq_true] at h
  exact h.2
def CR (xs ys : List Vl) : Int := if vrB xs && vrB ys then crF ci xs ys else 2
theorem CR_spec {xs ys : List Vl} (ha : vrB xs = true) (hb : vrB ys = true) : CR xs ys = crF cs xs ys := by
  unfold CR
  rw [ha, hb]
  exact crF_ext xs ys fun a h1 b h2 => ci_cs (vr_mem ha a h1) (vr_mem hb b h2)

set_option maxHeartbeats 2000000 in
theorem crI (A B : Option Addr) (c d : Nat) (xs ys : List Vl) (w : World) (ha : Rl encV 3 w A xs) (hb : Rl encV 3 w B ys) (fa : Fit xs) (fb : Fit ys) (la : xs.length ≤ 9223372036854775807) (lb : ys.length ≤ 9223372036854775807) :
    Calls Try.prog 26 #[.slice A xs.length c, .slice B ys.length d] w fun e w' => e = .returned (.int .i64 (CR xs ys)) ∧ Below w.heap.size w w' := by
  cases va : vrB xs
  · have H := hide (show CR xs ys = 2 by simp [CR, va])
    go_enter Try.func26, Try.ntmps26
    go_wp2_with fail
    refine (vrI A c xs _ ha fa la).mono ?_
    rintro e w1 ⟨rfl, hb1⟩
    rw [va]
    go_wp2_with fail
    go_ret
    exact ⟨ret_int H.out.symm, hb1⟩
  · cases vb : vrB ys
    · have H := hide (show CR xs ys = 2 by simp [CR, vb])
      go_enter Try.func26, Try.ntmps26
      go_wp2_with fail
      refine (vrI A c xs _ ha fa la).mono ?_
      rintro e w1 ⟨rfl, hb1⟩
      rw [va]
      go_wp2_with fail
      refine (vrI B d ys _ (hb.below hb1) fb lb).mono ?_
      rintro e w2 ⟨rfl, hb2⟩
      rw [vb]
      go_wp2_with fail
      go_ret
      exact ⟨ret_int H.out.symm, bt2 hb1 hb2⟩
    · have H := hide (show CR xs ys = crF ci xs ys by simp [CR, va, vb])
      go_enter Try.func26, Try.ntmps26
      go_wp2_with fail
      refine (vrI A c xs _ ha fa la).mono ?_
      rintro e w1 ⟨rfl, hb1⟩
      rw [va]
      go_wp2_with fail
      refine (vrI B d ys _ (hb.below hb1) fb lb).mono ?_
      rintro e w2 ⟨rfl, hb2⟩
      rw [vb]
      have hb2' := bt2 hb1 hb2
      clear hb1 hb2
      go_wp2_with fail
      go_loopw [5] (fun v wr => ∃ k : Nat, k ≤ xs.length ∧ k ≤ ys.length ∧ v = .int .i64 k ∧ Below w.heap.size w wr ∧ Hid (∀ t (_ : t < k) (h1 : t < xs.length) (h2 : t < ys.length), ci xs[t] ys[t] = 0)) (fun v _ => xs.length - (intOf v).toNat)
      case atStart => exact ⟨0, by omega, by omega, rfl, hb2', fun t ht => absurd ht (by omega)⟩
      case round =>
        obtain ⟨k, hk1, hk2, rfl, hbr, hno⟩ := hrel
        clear hb2'
        by_cases hla : k < xs.length
        · by_cases hlb : k < ys.length
          · obtain ⟨b, off, rfl, c0, c1, c2⟩ := (ha.below hbr).val hla
            obtain ⟨b', off', rfl, d0, d1, d2⟩ := (hb.below hbr).val hlb
            have HX : Hid (ci xs[k] ys[k] ≠ 0 → crF ci xs ys = ci xs[k] ys[k]) := fun h => crF_at ci k xs ys hla hlb (fun t ht => hno.out t ht (by omega) (by omega)) h
            have HY : Hid (ci xs[k] ys[k] = 0 → ∀ t (_ : t < k + 1) (h1 : t < xs.length) (h2 : t < ys.length), ci xs[t] ys[t] = 0) := fun h t ht h1 h2 => by
              rcases Nat.lt_or_ge t k with h3 | h3
              · exact hno.out t h3 h1 h2
              · obtain rfl : t = k := by omega
                exact h
            generalize xs[k] = x at c0 c1 c2 HX HY
            generalize ys[k] = y at d0 d1 d2 HX HY
            have i1 : (k : Int) < (xs.length : Int) := by omega
            have i2 : (k : Int) < (ys.length : Int) := by omega
            go_wp2_with fail
            go_region_held3 (fun w' => w'.cell? ⟨b, off + k * 3, none⟩ = some (.int .i64 x.k) ∧ w'.cell? ⟨b, off + k * 3 + 1, none⟩ = some (.int .i64 x.n) ∧ w'.cell? ⟨b, off + k * 3 + 2, none⟩ = some (.string x.s) ∧
                w'.cell? ⟨b', off' + k * 3, none⟩ = some (.int .i64 y.k) ∧ w'.cell? ⟨b', off' + k * 3 + 1, none⟩ = some (.int .i64 y.n) ∧ w'.cell? ⟨b', off' + k * 3 + 2, none⟩ = some (.string y.s))
              (first | exact ⟨c0, c1, c2, d0, d1, d2⟩ | exact ⟨cell_on (of_drew hb3) c0, cell_on (of_drew hb3) c1, cell_on (of_drew hb3) c2, cell_on (of_drew hb3) d0, cell_on (of_drew hb3) d1, cell_on (of_drew hb3) d2⟩)
              (first | (go_at_call 35; refine (ci_any x y _).mono ?_; rintro e w3 ⟨rfl, hb3⟩))
            cases hz : (ci x y == 0)
            · have hz' : (ci x y != 0) = true := by simp [bne, hz]
              have HF := hide (HX.out (by simpa using hz))
              go_wp2_with fail
              go_ret
              exact ⟨ret_int (by rw [H.out, HF.out]), bt hbr (of_drew hb3) hbr.size⟩
            · have hz' : (ci x y != 0) = false := by simp [bne, hz]
              have HF := hide (HY.out (by simpa using hz))
              go_wp2_with fail
              go_roundw
              case rel => exact ⟨k + 1, by omega, by omega, by go_num, bt hbr (of_drew hb3) hbr.size, HF.out⟩
              case measure => simp [intOf]; omega
          · have HF := hide (crF_end ci xs ys (fun t h1 h2 => hno.out t (by omega) h1 h2))
            go_wp2_with (go_at_call 43; refine (cmpInt_any _ _ _).mono ?_; rintro e w' ⟨rfl, rfl⟩)
            go_ret
            exact ⟨ret_int (by rw [H.out, HF.out]), hbr⟩
        · have HF := hide (crF_end ci xs ys (fun t h1 h2 => hno.out t (by omega) h1 h2))
          go_wp2_with (go_at_call 43; refine (cmpInt_any _ _ _).mono ?_; rintro e w' ⟨rfl, rfl⟩)
          go_ret
          exact ⟨ret_int (by rw [H.out, HF.out]), hbr⟩

end Go.Proofs.Ytngmiaglbmkbcaa
