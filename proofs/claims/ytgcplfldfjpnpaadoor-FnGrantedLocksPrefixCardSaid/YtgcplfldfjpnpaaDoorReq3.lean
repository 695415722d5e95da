/-
  GrantedLocks of the program and of the reference: what each answers for any list of requests. Conditions: the slice reads as the list; the table of masks reads as it was laid.
-/
import Derived.Test.YtgcplfldfjpnpaaDoorReq2
namespace Go.Proofs.YtgcplfldfjpnpaaDoor
open Go.RowKit
set_option linter.unusedVariables false
set_option linter.unusedSimpArgs false

def md (rs : List (Int × Int)) (k : Nat) : Int := (rs.getD k (0, 0)).2
theorem md_at {rs : List (Int × Int)} {k : Nat} (hk : k < rs.length) : rs[k].2 = md rs k := by
  unfold md
  rw [List.getD_eq_getElem?_getD, List.getElem?_eq_getElem hk]
  rfl
def okG (rs : List (Int × Int)) (n : Nat) : Bool := (List.range n).all fun k => tog (md rs k) (md rs n)
def gr (rs : List (Int × Int)) : Int := match (List.range rs.length).find? (fun n => !okG rs n) with | some n => (n : Int) | none => (rs.length : Int)
def GL (rs : List (Int × Int)) : Int := if vq rs = true then gr rs else -1
theorem okG_no {rs : List (Int × Int)} {n k : Nat} (hk : k < n) (h : tog (md rs k) (md rs n) = false) : okG rs n = false :=
  List.all_eq_false.2 ⟨k, List.mem_range.2 hk, by simp [h]⟩
theorem okG_yes {rs : List (Int × Int)} {n : Nat} (h : ∀ k, k < n → tog (md rs k) (md rs n) = true) : okG rs n = true :=
  List.all_eq_true.2 fun k hk => h k (List.mem_range.1 hk)
theorem gr_at {rs : List (Int × Int)} {n : Nat} (hn : n < rs.length) (h : ∀ t, t < n → okG rs t = true) (hx : okG rs n = false) : gr rs = n := by
  unfold gr
  have : (List.range rs.length).find? (fun n => !okG rs n) = some n := by
    rw [List.find?_range_eq_some]
    exact ⟨by simp [hx], by simpa using hn, fun j hj => by simp [h j hj]⟩
  rw [this]
theorem gr_end {rs : List (Int × Int)} (h : ∀ t, t < rs.length → okG rs t = true) : gr rs = rs.length := by
  unfold gr
  have : (List.range rs.length).find? (fun n => !okG rs n) = none := by
    rw [List.find?_eq_none]
    intro x hx
    simp [h x (List.mem_range.1 hx)]
  rw [this]

set_option maxHeartbeats 2000000 in
theorem glI (A : Option Addr) (c : Nat) (rs : List (Int × Int)) (w : World) (hr : Rl encR 2 w A rs) (hc : rs.length ≤ 1048576) (hcap : rs.length ≤ c) (hM : Masks w) :
    Calls Tryd.prog 18 #[.slice A rs.length c] w fun e w' => e = .returned (.int .i64 (GL rs)) ∧ Below w.heap.size w w' := by
  cases hv : vq rs
  · have H := hide (show GL rs = -1 by simp [GL, hv])
    go_enter Tryd.func18, Tryd.ntmps18
    go_wp2_with fail
    refine (vrI A c rs _ hr hc).mono ?_
    rintro e w1 ⟨rfl, hb1⟩
    obtain ⟨hc1, hf1, hz1⟩ := bcell hb1
    try simp only [World.size_alloc] at hz1
    go_wp2_with fail
    go_ret
    exact ⟨ret_int H.out.symm, hb1⟩
  · have H := hide (show GL rs = gr rs by simp [GL, hv])
    go_enter Tryd.func18, Tryd.ntmps18
    go_wp2_with fail
    refine (vrI A c rs _ hr hc).mono ?_
    rintro e w1 ⟨rfl, hb1⟩
    obtain ⟨hc1, hf1, hz1⟩ := bcell hb1
    try simp only [World.size_alloc] at hz1
    clear hc1 hf1
    have hM1 := hM.below hb1
    go_wp2_with fail
    go_loopw [12] (fun v wr => ∃ k : Nat, k ≤ rs.length ∧ v = .int .i64 k ∧ Below w.heap.size w wr ∧ Masks wr ∧ Hid (∀ t, t < k → okG rs t = true)) (fun v _ => rs.length - (intOf v).toNat)
    case atStart => exact ⟨0, by omega, rfl, hb1, hM1, fun t ht => absurd ht (by omega)⟩
    case round =>
      obtain ⟨k, hk, rfl, hb, hMr, hno⟩ := hrel
      clear hb1 hM1
      by_cases hlt : k < rs.length
      · have hrr := hr.below hb
        obtain ⟨b, off, rfl, c0, c1⟩ := hrr.req hlt
        have hkc : (k : Int) ≤ (c : Int) := by omega
        rw [md_at hlt] at c1
        generalize rs[k].1 = o at c0
        go_wp2_with fail
        have hbo : Below w.heap.size w (wr.alloc (.cells #[.int .i64 o, .int .i64 (md rs k)] 32)) := hb.alloc hb.size _
        have hro := hrr.alloc (.cells #[.int .i64 o, .int .i64 (md rs k)] 32)
        have hMo := hMr.alloc (.cells #[.int .i64 o, .int .i64 (md rs k)] 32)
        have r0 : (wr.alloc (.cells #[.int .i64 o, .int .i64 (md rs k)] 32)).cell? ⟨wr.heap.size, 1, none⟩ = some (.int .i64 (md rs k)) := by simp [go_sem]
        have rz : wr.heap.size < (wr.alloc (.cells #[.int .i64 o, .int .i64 (md rs k)] 32)).heap.size := by simp
        have hws := hb.size
        generalize wr.alloc (.cells #[.int .i64 o, .int .i64 (md rs k)] 32) = wo at hbo hro hMo r0 rz ⊢
        generalize wr.heap.size = R at r0 rz hws ⊢
        clear hrr hMr hb c0 c1
        go_loopw [21] (fun v wq => ∃ j : Nat, j ≤ k ∧ v = .int .i64 j ∧ Below wo.heap.size wo wq ∧ Hid (∀ t, t < j → tog (md rs t) (md rs k) = true)) (fun v _ => k - (intOf v).toNat)
        case atStart => exact ⟨0, by omega, rfl, Below.refl _ _, fun t ht => absurd ht (by omega)⟩
        case round =>
          rename_i wq _
          obtain ⟨j, hj, rfl, hbq, hnoq⟩ := hrel
          by_cases hjk : j < k
          · have hjl : j < rs.length := by omega
            obtain ⟨b', off', e', d0, d1⟩ := (hro.below hbq).req hjl
            obtain ⟨rfl, rfl⟩ : b = b' ∧ off = off' := by simpa using e'
            rw [md_at hjl] at d1
            generalize rs[j].1 = o' at d0
            have r1 := (hbq.cell (p := ⟨R, 1, none⟩) rz).trans r0
            have hMq := (hMo.below hbq).alloc (.cells #[.int .i64 o', .int .i64 (md rs j)] 32)
            have hRq : R < wr.heap.size := Nat.lt_of_lt_of_le rz hbq.size
            cases ht : tog (md rs j) (md rs k)
            · have HF := hide (gr_at hlt hno.out (okG_no hjk ht))
              go_wp2_with fail
              refine (lt_any _ _ _ hMq).mono ?_
              rintro e w' ⟨rfl, rfl⟩
              rw [ht]
              go_wp2_with fail
              go_ret
              exact ⟨ret_int (by rw [H.out, HF.out]), bt (bt hbo hbq (by have := hbo.size; omega)) (by go_grown) (by have := hbo.size; have := hbq.size; omega)⟩
            · go_wp2_with fail
              refine (lt_any _ _ _ hMq).mono ?_
              rintro e w' ⟨rfl, rfl⟩
              rw [ht]
              go_wp2_with fail
              go_roundw
              case rel =>
                refine ⟨j + 1, by omega, by go_num, bt2 hbq (by go_grown), fun t htt => ?_⟩
                rcases Nat.lt_or_ge t j with h1 | h1
                · exact hnoq.out t h1
                · obtain rfl : t = j := by omega
                  exact ht
              case measure => simp [intOf]; omega
          · obtain rfl : j = k := by omega
            go_wp2
            go_roundw
            case rel =>
              refine ⟨j + 1, by omega, by go_num, bt hbo hbq (by have := hbo.size; omega), hMo.below hbq, fun t htt => ?_⟩
              rcases Nat.lt_or_ge t j with h1 | h1
              · exact hno.out t h1
              · obtain rfl : t = j := by omega
                exact okG_yes hnoq.out
            case measure => simp [intOf]; omega
      · obtain rfl : k = rs.length := by omega
        go_wp2
        go_ret
        exact ⟨ret_int (by rw [H.out, gr_end hno.out]), hb⟩

end Go.Proofs.YtgcplfldfjpnpaaDoor
