/-
  The statement that texts are ordered. Conditions: the argument reads as a list of bytes.
-/
import Derived.Test.YtngmiaglbmkbcaaVTwo
import Derived.Test.YtngmiaglbmkbcaaKeyE
import Derived.Test.YtngmiaglbmkbcaaRow
namespace Go.Proofs.Ytngmiaglbmkbcaa
open Go.RowKit
set_option linter.unusedVariables false
set_option linter.unusedSimpArgs false

theorem sm_fit {vs : List Vl} (h : ∀ v ∈ vs, Sm v) : Fit vs := fun v hv => by have := (h v hv).2.2.2.2; omega
theorem EK_size (vs : List Vl) : (EK vs).size ≤ 100 := by
  unfold EK
  cases hv : vrB vs
  · simp
  · have := (ek_size (vr_mem hv)).2
    unfold vrB at hv
    rw [Bool.and_eq_true, decide_eq_true_eq] at hv
    simp only [if_true]
    omega
def Txt2 (w : World) (e : Ending) (w' : World) : Prop :=
  ∃ s t : ByteArray, e = .returned (.tuple #[.string s, .string t]) ∧ s.size ≤ 100 ∧ t.size ≤ 100 ∧ Below w.heap.size w w'

theorem drawKeys (A : Option Addr) (c : Nat) (zs : List Int) (w : World) (h : Bytes w A c zs) :
    Calls Try.prog 22 #[.slice A zs.length c] w (Txt2 w) := by
  go_enter Try.func22, Try.ntmps22
  go_wp2_with fail
  refine (drawRows A c zs w h).mono ?_
  rintro e w1 ⟨P, p, xs, Q, q, ys, rfl, hx, hy, lx, ly, sx, sy, hb⟩
  have zx := EK_size xs
  have zy := EK_size ys
  have ex := hide (fun W hr => EKS P p xs W hr (sm_fit sx) (by omega))
  have ey := hide (fun W hr => EKS Q q ys W hr (sm_fit sy) (by omega))
  generalize EK xs = s at ex zx
  generalize EK ys = t at ey zy
  go_wp2_with fail
  refine (ex.out _ hx.rl).mono ?_
  rintro e w2 ⟨rfl, hb2⟩
  go_wp2_with fail
  refine (ey.out _ (hy.rl.below hb2)).mono ?_
  rintro e w3 ⟨rfl, hb3⟩
  go_wp2_with fail
  go_ret2
  exact ⟨s, t, rfl, zx, zy, bt2 (bt2 hb hb2) hb3⟩

set_option maxHeartbeats 1000000 in
theorem keysLaw_walk (A : Option Addr) (c : Nat) (zs : List Int) (w : World) (h : Bytes w A c zs) :
    Calls Try.prog 9 #[.slice A zs.length c] w fun e w' => e = .returned (.bool true) ∧ Below w.heap.size w w' := by
  have hcap := h.cap
  have hmax := h.max
  by_cases hl : 1048576 < zs.length
  · go_enter Try.func9, Try.ntmps9
    go_wp2
    go_ret
    exact ⟨rfl, Below.refl _ _⟩
  · go_enter Try.func9, Try.ntmps9
    go_wp2_with fail
    refine (drawKeys A c zs _ h).mono ?_
    rintro e w1 ⟨s, t, rfl, hs, ht, hb1⟩
    have hI := hide (fun W => iKeys_any s t W)
    have hS := hide (fun W => sKeys_any s t W)
    have hJ := hide (fun W => iKeys_any t s W)
    have hX := hide (fun W => iKeys_any s (s ++ ⟨#[120]⟩) W)
    have hx1 : cmpT s (s ++ ⟨#[120]⟩) = -1 := (cmpT_lt (by
      rw [ByteArray.toList_eq, ByteArray.toList_eq, ByteArray.data_append, Array.toList_append]
      exact bl_app _ _)).1
    rw [hx1] at hX
    clear hx1
    have htri := cmpT_tri s t
    have hzs : (s ++ (⟨#[120]⟩ : ByteArray)).size ≤ 101 := by rw [ByteArray.size_append]; have : (⟨#[120]⟩ : ByteArray).size = 1 := rfl; omega
    rcases htri with ⟨_, h1, h2, h3⟩ | ⟨h3, h1, h2⟩ | ⟨_, h1, h2, h3⟩
    all_goals
      rw [h1] at hI hS
      rw [h2] at hJ
      clear h1 h2
    · have he : (s.toList == t.toList) = false := by
        cases hh : (s.toList == t.toList)
        · rfl
        · exact absurd (tl_inj (eq_of_beq hh)) h3
      clear h3
      go_wp2_with fail
      refine (hI.out _).mono ?_
      rintro e w' ⟨rfl, rfl⟩
      go_wp2_with fail
      refine (hS.out _).mono ?_
      rintro e w' ⟨rfl, rfl⟩
      go_wp2_with fail
      refine (hJ.out _).mono ?_
      rintro e w' ⟨rfl, rfl⟩
      go_wp2_with fail
      refine (hX.out _).mono ?_
      rintro e w' ⟨rfl, rfl⟩
      go_wp2_with fail
      go_ret
      exact ⟨rfl, hb1⟩
    · have he : (s.toList == t.toList) = true := by rw [h3]; exact beq_self_eq_true _
      clear h3
      go_wp2_with fail
      refine (hI.out _).mono ?_
      rintro e w' ⟨rfl, rfl⟩
      go_wp2_with fail
      refine (hS.out _).mono ?_
      rintro e w' ⟨rfl, rfl⟩
      go_wp2_with fail
      refine (hJ.out _).mono ?_
      rintro e w' ⟨rfl, rfl⟩
      go_wp2_with fail
      refine (hX.out _).mono ?_
      rintro e w' ⟨rfl, rfl⟩
      go_wp2_with fail
      go_ret
      exact ⟨rfl, hb1⟩
    · have he : (s.toList == t.toList) = false := by
        cases hh : (s.toList == t.toList)
        · rfl
        · exact absurd (tl_inj (eq_of_beq hh)) h3
      clear h3
      go_wp2_with fail
      refine (hI.out _).mono ?_
      rintro e w' ⟨rfl, rfl⟩
      go_wp2_with fail
      refine (hS.out _).mono ?_
      rintro e w' ⟨rfl, rfl⟩
      go_wp2_with fail
      refine (hJ.out _).mono ?_
      rintro e w' ⟨rfl, rfl⟩
      go_wp2_with fail
      refine (hX.out _).mono ?_
      rintro e w' ⟨rfl, rfl⟩
      go_wp2_with fail
      go_ret
      exact ⟨rfl, hb1⟩

end Go.Proofs.Ytngmiaglbmkbcaa
