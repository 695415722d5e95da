/-
  DecodeKey of the reference: it hands back the row of a key, if there is one. Conditions: the text has at most 2^20 bytes.
-/
import Derived.Test.YtoofioemjgeifaaKeyS
namespace Go.Proofs.Ytoofioemjgeifaa
open Go.RowKit
set_option linter.unusedVariables false
set_option linter.unusedSimpArgs false

def Sdn (s : ByteArray) (w : World) (e : Ending) (w' : World) : Prop :=
  ∃ n : Int, e = .returned (.int .i64 n) ∧ -100000000 ≤ n ∧ n ≤ 100000000 ∧ (∀ h : 4 ≤ s.size, n = sdn (s[0].toNat : Int) (s[1].toNat : Int) (s[2].toNat : Int) (s[3].toNat : Int)) ∧ ∃ k, w' = w.drewN k

set_option maxHeartbeats 1000000 in
theorem sdnS (s : ByteArray) (w : World) (hm : s.size ≤ 9223372036854775807) :
    Calls Try.prog 60 #[.string s] w (Sdn s w) := by
  by_cases h4 : s.size < 4
  · have h4' : (s.size : Int) < 4 := by omega
    have hno : ¬ (4 ≤ s.size) := by omega
    clear h4
    go_enter Try.func60, Try.ntmps60
    go_wp2_with fail
    go_ret
    exact ⟨_, rfl, by omega, by omega, fun h => absurd h hno, 0, rfl⟩
  · obtain ⟨x0, e0⟩ : ∃ x : Int, ((s[0]'(by omega)).toNat : Int) = x := ⟨_, rfl⟩
    obtain ⟨x1, e1⟩ : ∃ x : Int, ((s[1]'(by omega)).toNat : Int) = x := ⟨_, rfl⟩
    obtain ⟨x2, e2⟩ : ∃ x : Int, ((s[2]'(by omega)).toNat : Int) = x := ⟨_, rfl⟩
    obtain ⟨x3, e3⟩ : ∃ x : Int, ((s[3]'(by omega)).toNat : Int) = x := ⟨_, rfl⟩
    have r0 : 0 ≤ x0 ∧ x0 ≤ 255 := by have := (s[0]'(by omega)).toNat_lt; omega
    have r1 : 0 ≤ x1 ∧ x1 ≤ 255 := by have := (s[1]'(by omega)).toNat_lt; omega
    have r2 : 0 ≤ x2 ∧ x2 ≤ 255 := by have := (s[2]'(by omega)).toNat_lt; omega
    have r3 : 0 ≤ x3 ∧ x3 ≤ 255 := by have := (s[3]'(by omega)).toNat_lt; omega
    have s0 : (0 : Int) < (s.size : Int) := by omega
    have s1 : (1 : Int) < (s.size : Int) := by omega
    have s2 : (2 : Int) < (s.size : Int) := by omega
    have s3 : (3 : Int) < (s.size : Int) := by omega
    have h4z : ¬ ((s.size : Int) < 4) := by omega
    have he : Hid (∀ h : 4 ≤ s.size, sdn x0 x1 x2 x3 = sdn (s[0].toNat : Int) (s[1].toNat : Int) (s[2].toNat : Int) (s[3].toNat : Int)) := fun h => by rw [e0, e1, e2, e3]
    have hb : Hid (-100000000 ≤ sdn x0 x1 x2 x3 ∧ sdn x0 x1 x2 x3 ≤ 100000000) := by unfold Hid sdn; omega
    go_enter Try.func60, Try.ntmps60
    go_wp2_with fail
    have v0 : IntKind.i64.wrap x0 = x0 := IntWalk.i64_in _ (by omega)
    have v1 : IntKind.i64.wrap x1 = x1 := IntWalk.i64_in _ (by omega)
    have v2 : IntKind.i64.wrap x2 = x2 := IntWalk.i64_in _ (by omega)
    have v3 : IntKind.i64.wrap x3 = x3 := IntWalk.i64_in _ (by omega)
    have u0 : IntKind.i64.wrap (x0 - 48) = x0 - 48 := IntWalk.i64_in _ (by omega)
    have u1 : IntKind.i64.wrap (x1 - 32) = x1 - 32 := IntWalk.i64_in _ (by omega)
    have u2 : IntKind.i64.wrap (x2 - 32) = x2 - 32 := IntWalk.i64_in _ (by omega)
    have p0 : IntKind.i64.wrap (200000 * (x0 - 48)) = 200000 * (x0 - 48) := IntWalk.i64_in _ (by omega)
    have p1 : IntKind.i64.wrap (4000 * (x1 - 32)) = 4000 * (x1 - 32) := IntWalk.i64_in _ (by omega)
    have p2 : IntKind.i64.wrap (80 * (x2 - 32)) = 80 * (x2 - 32) := IntWalk.i64_in _ (by omega)
    have t1 : IntKind.i64.wrap (200000 * (x0 - 48) + 4000 * (x1 - 32)) = 200000 * (x0 - 48) + 4000 * (x1 - 32) := IntWalk.i64_in _ (by omega)
    have t2 : IntKind.i64.wrap (200000 * (x0 - 48) + 4000 * (x1 - 32) + 80 * (x2 - 32)) = 200000 * (x0 - 48) + 4000 * (x1 - 32) + 80 * (x2 - 32) := IntWalk.i64_in _ (by omega)
    have t3 : IntKind.i64.wrap (200000 * (x0 - 48) + 4000 * (x1 - 32) + 80 * (x2 - 32) + x3) = 200000 * (x0 - 48) + 4000 * (x1 - 32) + 80 * (x2 - 32) + x3 := IntWalk.i64_in _ (by omega)
    have t4 : IntKind.i64.wrap (200000 * (x0 - 48) + 4000 * (x1 - 32) + 80 * (x2 - 32) + x3 - 32) = 200000 * (x0 - 48) + 4000 * (x1 - 32) + 80 * (x2 - 32) + x3 - 32 := IntWalk.i64_in _ (by omega)
    have t5 : IntKind.i64.wrap (200000 * (x0 - 48) + 4000 * (x1 - 32) + 80 * (x2 - 32) + x3 - 32 - 999999) = 200000 * (x0 - 48) + 4000 * (x1 - 32) + 80 * (x2 - 32) + x3 - 32 - 999999 := IntWalk.i64_in _ (by omega)
    go_quiet (fail)
    clear v0 v1 v2 v3 u0 u1 u2 p0 p1 p2 t1 t2 t3 t4 t5 e0 e1 e2 e3
    go_wp2_with fail
    go_ret
    exact ⟨sdn x0 x1 x2 x3, rfl, hb.out.1, hb.out.2, he.out, _, rfl⟩

def Rows1 (s : ByteArray) (w : World) (e : Ending) (w' : World) : Prop :=
  Below w.heap.size w w' ∧ ∃ (v : Value) (out : List Vl), e = .returned v ∧ w'.ownsRow w.heap.size 54 3 v out.length (out.flatMap encV) ∧ out.length ≤ 6 ∧ (∀ x ∈ out, x.s.size ≤ 1048576) ∧ ∀ vs, vrB vs = true → ek vs = s → out = vs

set_option maxHeartbeats 2000000 in
theorem rdS (s : ByteArray) (w : World) (hm : s.size ≤ 1048576) :
    Calls Try.prog 46 #[.string s] w (Rows1 s w) := by
  obtain ⟨i0, hi, hz0, hz1, hz2⟩ := info_parts infoW
  have hi' := hide hi; have hz0' := hide hz0; have hz1' := hide hz1; have hz2' := hide hz2
  clear hi hz0 hz1 hz2
  have o0 := ow_empty w (w.alloc (.cells #[] 54)) 54 3 (heap_alloc_new _ _)
  go_enter Try.func46, Try.ntmps46
  go_wp2_with fail
  go_loopw [3, 4] (fun o u wr => ∃ (a : Nat) (z : Value) (pre : List Vl), u = .int .i64 a ∧ o = z ∧ a ≤ s.size + 10 ∧ pre.length ≤ 6 ∧ Hid (Front s pre a) ∧ Hid (∀ x ∈ pre, x.s.size ≤ 1048576) ∧ Below w.heap.size w wr ∧ wr.ownsRow w.heap.size 54 3 z pre.length (pre.flatMap encV)) (fun _ u _ => s.size + 10 - (intOf u).toNat)
  case atStart => exact ⟨0, _, [], rfl, rfl, by omega, by simp, front_zero s, (fun v hv => by cases hv), by go_grown, o0⟩
  case round =>
    obtain ⟨a, z, pre, rfl, rfl, ha, hpl, hfr, hpv, hb, hown⟩ := hrel
    clear o0
    have hge : ∀ g, u3.ownBlock = some g → w.heap.size ≤ g := fun g hg => ow_ge hown hg
    have hsz := hb.size
    by_cases hp : a < s.size
    · by_cases h5 : pre.length ≤ 5
      · obtain ⟨c, hc⟩ : ∃ c : Int, (s[a].toNat : Int) = c := ⟨_, rfl⟩
        have hp' : (a : Int) < (s.size : Int) := by omega
        obtain ⟨A, cc, hu3, hL, hblk⟩ := ow_open (by omega) encV_len hown
        by_cases c98 : c = 98
        · subst c98
          subst hu3
          have hex : (s.extract (a + 1) s.size).size = s.size - (a + 1) := by rw [ByteArray.size_extract]; omega
          have hsd := hide (fun W => sdnS (s.extract (a + 1) s.size) W (by omega))
          have q1 : (a : Int) + 1 ≤ (s.size : Int) := by omega
          clear hL hblk
          go_wp2_with fail
          refine (hsd.out _).mono ?_
          rintro e w1 ⟨n, rfl, n0, n1, hn, k, rfl⟩
          have hF := hide (front_step (v := ⟨1, n, ByteArray.empty⟩) (a' := a + 5) hfr.out hp (step_num hp hc (fun h => by
            rw [hn (by omega)]
            simp only [ByteArray.getElem_extract, Nat.add_assoc, Nat.add_zero])))
          have hv2 : Hid (∀ x ∈ pre ++ [⟨1, n, ByteArray.empty⟩], x.s.size ≤ 1048576) := fun x hx => by
            rcases List.mem_append.1 hx with hx | hx
            · exact hpv.out x hx
            · obtain rfl : x = ⟨1, n, ByteArray.empty⟩ := by simpa using hx
              exact (show ByteArray.empty.size ≤ 1048576 by decide)
          have hb1 := below_drewN hb k
          have hown1 := ow_below hown (below_drewN (Below.refl wr.heap.size wr) k)
          have hs1 := hb1.size
          clear hn hsd hc hfr hpv hex
          go_wp2_with (first | (at_builtin; refine wpList_elem Try.underlying24 hi'.out hz0'.out hz1'.out hz2'.out rfl (by decide) (by decide) encV_len encV_one rfl _ _ rfl w.heap.size _ pre rfl hown1 ⟨1, n, ByteArray.empty⟩ _ rfl _ rfl rfl (by omega) hs1 ?_; intro v' w2 hown' hg2; clear hown1))
          go_roundw
          case rel => exact ⟨a + 5, _, pre ++ [⟨1, n, ByteArray.empty⟩], by go_num, rfl, by omega, by simp; omega, hF, hv2, hb1.grown hg2 hs1 hge, hown'⟩
          case measure => simp [intOf]; omega
        · by_cases c99 : c = 99
          · subst c99
            subst hu3
            clear hL hblk
            go_wp2_with fail
            go_loop [5] (fun u => ∃ k : Nat, u = .int .i64 k ∧ a + 1 + k ≤ s.size ∧ Hid (∀ t (ht : t < k) (hh : a + 1 + t < s.size), (s[a + 1 + t]'hh).toNat ≠ 1)) (fun u => s.size - (intOf u).toNat)
            case atStart => exact ⟨0, rfl, by omega, fun t ht => absurd ht (by omega)⟩
            case round =>
              obtain ⟨k, rfl, hk, hno⟩ := hrel
              have k0 : (0 : Int) ≤ (a : Int) + 1 + (k : Int) := by omega
              have k1 : ((a : Int) + 1 + (k : Int)).toNat = a + 1 + k := by omega
              by_cases hlt : a + 1 + k < s.size
              · have hlt' : (a : Int) + 1 + (k : Int) < (s.size : Int) := by omega
                obtain ⟨d, hd⟩ : ∃ d : Int, ((s[a + 1 + k]'hlt).toNat : Int) = d := ⟨_, rfl⟩
                by_cases h1 : d = 1
                · have hF := step_text (n := k) hp hc (by omega) (fun t ht => hno.out t ht (by omega)) (.inr ⟨hlt, by omega⟩)
                  subst h1
                  have hS := hide (front_step (v := ⟨2, 0, s.extract (a + 1) (a + 1 + k)⟩) (a' := a + k + 2) hfr.out hp hF)
                  have hv2 : Hid (∀ x ∈ pre ++ [⟨2, 0, s.extract (a + 1) (a + 1 + k)⟩], x.s.size ≤ 1048576) := fun x hx => by
                    rcases List.mem_append.1 hx with hx | hx
                    · exact hpv.out x hx
                    · obtain rfl : x = ⟨2, 0, s.extract (a + 1) (a + 1 + k)⟩ := by simpa using hx
                      show (s.extract (a + 1) (a + 1 + k)).size ≤ 1048576
                      rw [ByteArray.size_extract]
                      omega
                  clear hF hfr hpv hno
                  go_wp2_with (first | (at_builtin; refine wpList_elem Try.underlying24 hi'.out hz0'.out hz1'.out hz2'.out rfl (by decide) (by decide) encV_len encV_one rfl _ _ rfl w.heap.size _ pre rfl hown ⟨2, 0, s.extract (a + 1) (a + 1 + k)⟩ _ rfl _ rfl rfl (by omega) hsz ?_; intro v' w2 hown' hg2; clear hown))
                  go_roundw
                  case rel => exact ⟨a + k + 2, _, pre ++ [⟨2, 0, s.extract (a + 1) (a + 1 + k)⟩], by rw [Value.int.injEq]; exact ⟨rfl, by omega⟩, rfl, by omega, by simp; omega, hS, hv2, hb.grown hg2 hsz hge, hown'⟩
                  case measure => simp [intOf]; omega
                · have d1 : (d == 1) = false := by rw [beq_eq_false_iff_ne]; exact h1
                  have d2 : (d != 1) = true := by rw [bne, d1]; rfl
                  have hno2 : Hid (∀ t (ht : t < k + 1) (hh : a + 1 + t < s.size), (s[a + 1 + t]'hh).toNat ≠ 1) := fun t ht hh => by
                    rcases Nat.lt_or_ge t k with h3 | h3
                    · exact hno.out t h3 hh
                    · obtain rfl : t = k := by omega
                      omega
                  clear h1 hno
                  go_wp2_with fail
                  go_round
                  case rel => exact ⟨k + 1, by go_num, by omega, hno2⟩
                  case measure => simp [intOf]; omega
              · have hlt' : ¬ ((a : Int) + 1 + (k : Int) < (s.size : Int)) := by omega
                have hF := step_text (n := k) hp hc (by omega) (fun t ht => hno.out t ht (by omega)) (.inl (by omega))
                have hS := hide (front_step (v := ⟨2, 0, s.extract (a + 1) (a + 1 + k)⟩) (a' := a + k + 2) hfr.out hp hF)
                have hv2 : Hid (∀ x ∈ pre ++ [⟨2, 0, s.extract (a + 1) (a + 1 + k)⟩], x.s.size ≤ 1048576) := fun x hx => by
                  rcases List.mem_append.1 hx with hx | hx
                  · exact hpv.out x hx
                  · obtain rfl : x = ⟨2, 0, s.extract (a + 1) (a + 1 + k)⟩ := by simpa using hx
                    show (s.extract (a + 1) (a + 1 + k)).size ≤ 1048576
                    rw [ByteArray.size_extract]
                    omega
                clear hF hfr hpv hno
                go_wp2_with (first | (at_builtin; refine wpList_elem Try.underlying24 hi'.out hz0'.out hz1'.out hz2'.out rfl (by decide) (by decide) encV_len encV_one rfl _ _ rfl w.heap.size _ pre rfl hown ⟨2, 0, s.extract (a + 1) (a + 1 + k)⟩ _ rfl _ rfl rfl (by omega) hsz ?_; intro v' w2 hown' hg2; clear hown))
                go_roundw
                case rel => exact ⟨a + k + 2, _, pre ++ [⟨2, 0, s.extract (a + 1) (a + 1 + k)⟩], by rw [Value.int.injEq]; exact ⟨rfl, by omega⟩, rfl, by omega, by simp; omega, hS, hv2, hb.grown hg2 hsz hge, hown'⟩
                case measure => simp [intOf]; omega
          · have n1 : (c == 98) = false := by rw [beq_eq_false_iff_ne]; exact c98
            have n2 : (c == 99) = false := by rw [beq_eq_false_iff_ne]; exact c99
            subst hu3
            have hF := hide (front_step (v := ⟨0, 0, ByteArray.empty⟩) (a' := a + 1) hfr.out hp (step_none hp (by rw [hc]; exact c98) (by rw [hc]; exact c99)))
            have hv2 : Hid (∀ x ∈ pre ++ [⟨0, 0, ByteArray.empty⟩], x.s.size ≤ 1048576) := fun x hx => by
              rcases List.mem_append.1 hx with hx | hx
              · exact hpv.out x hx
              · obtain rfl : x = ⟨0, 0, ByteArray.empty⟩ := by simpa using hx
                exact (show ByteArray.empty.size ≤ 1048576 by decide)
            clear hL hblk c98 c99 hfr hpv
            go_wp2_with (first | (at_builtin; refine wpList_elem Try.underlying24 hi'.out hz0'.out hz1'.out hz2'.out rfl (by decide) (by decide) encV_len encV_one rfl _ _ rfl w.heap.size _ pre rfl hown ⟨0, 0, ByteArray.empty⟩ _ rfl _ rfl rfl (by omega) hsz ?_; intro v' w2 hown' hg2; clear hown))
            go_roundw
            case rel => exact ⟨a + 1, _, pre ++ [⟨0, 0, ByteArray.empty⟩], by go_num, rfl, by omega, by simp; omega, hF, hv2, hb.grown hg2 hsz hge, hown'⟩
            case measure => simp [intOf]; omega
      · have h6 : 5 < pre.length := by omega
        have hE := hide (front_end hfr.out (.inr h6))
        obtain ⟨A, cc, hu3, hL, hblk⟩ := ow_open (by omega) encV_len hown
        have hp' : (a : Int) < (s.size : Int) := by omega
        have h6' : ¬ ((pre.length : Int) ≤ 5) := by omega
        subst hu3
        go_wp2_with fail
        go_ret
        exact ⟨hb, _, pre, rfl, hown, hpl, hpv.out, hE.out⟩
    · have hE := hide (front_end hfr.out (.inl (by omega)))
      have hp' : ¬ ((a : Int) < (s.size : Int)) := by omega
      go_wp2_with fail
      go_ret
      exact ⟨hb, _, pre, rfl, hown, hpl, hpv.out, hE.out⟩

end Go.Proofs.Ytoofioemjgeifaa
