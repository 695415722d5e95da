/-
  The key of a row: encodeNum, encodeKey and EncodeKey of the reference and EncodeKey of the program: all answer the key that KeyP tells. Conditions: the row reads as a list of valid values.
-/
import Derived.Test.YtoofioemjgeifaaKeyP
import Derived.Test.YtoofioemjgeifaaOwn
import Derived.StillTailTactics
import Derived.Lib.AppendStr
namespace Go.Proofs.Ytoofioemjgeifaa
open Go.RowKit
set_option linter.unusedVariables false
set_option linter.unusedSimpArgs false

theorem conv4 (w : World) (a b c d : Int) :
    (convert 22 9 (.slice (some ⟨w.heap.size, 0, none⟩) 4 4)).run Try.prog (w.alloc (.cells #[.int .u8 a, .int .u8 b, .int .u8 c, .int .u8 d] 5)) = .ok (.string (strOfNums [a, b, c, d])) (w.alloc (.cells #[.int .u8 a, .int .u8 b, .int .u8 c, .int .u8 d] 5)) :=
  run_convert_bytes_arg (P := Try.prog) _ 22 5 Try.underlying22 Try.underlying5 w.heap.size 0 4 4 [a, b, c, d] rfl (fun i hi => by
    have h := (Blk.new w 5 #[.int .u8 a, .int .u8 b, .int .u8 c, .int .u8 d]).cell (0 + i)
    rw [h]
    match i, hi with
    | 0, _ => rfl
    | 1, _ => rfl
    | 2, _ => rfl
    | 3, _ => rfl) _ Try.underlying9
/-- The four bytes of a number. -/
def n4 (n : Int) : ByteArray := strOfNums [48 + (n + 999999) / 200000, 32 + (n + 999999) / 4000 % 50, 32 + (n + 999999) / 80 % 50, 32 + (n + 999999) % 80]

theorem num_any (n : Int) (w : World) (h0 : -999999 ≤ n) (h1 : n ≤ 999999) :
    Calls Try.prog 59 #[.int .i64 n] w fun e w' => e = .returned (.string (n4 n)) ∧ Below w.heap.size w w' := by
  obtain ⟨m, hm⟩ : ∃ m, n + 999999 = m := ⟨_, rfl⟩
  have HN : Hid (n4 n = strOfNums [48 + m / 200000, 32 + m / 4000 % 50, 32 + m / 80 % 50, 32 + m % 80]) := by unfold Hid n4; rw [hm]
  have q0 : 0 ≤ m := by omega
  have q1 : m ≤ 1999998 := by omega
  obtain rfl : n = m - 999999 := by omega
  clear hm h0 h1
  go_enter Try.func59, Try.ntmps59
  have hcv := conv4 w (48 + m / 200000) (32 + m / 4000 % 50) (32 + m / 80 % 50) (32 + m % 80)
  go_wp2_with fail
  go_ret
  exact ⟨ret_str HN.out.symm, by go_grown⟩

theorem ekb0 {v : Vl} (h : v.k = 0) : ekb v = ⟨#[97]⟩ := by
  unfold ekb kz
  rw [if_pos h]
  rfl
theorem ekb1 {v : Vl} (h : v.k = 1) : ekb v = ⟨#[98]⟩ ++ n4 v.n := by
  unfold ekb kz n4
  rw [if_neg (by omega), if_pos h, ← List.singleton_append, son_app]
  rfl
theorem ekb2 {v : Vl} (h : v.k = 2) : ekb v = ⟨#[99]⟩ ++ v.s ++ ⟨#[1]⟩ := by
  unfold ekb kz
  rw [if_neg (by omega), if_neg (by omega), ← List.singleton_append, son_app, son_app, son_nums, ByteArray.append_assoc]
  rfl
theorem ek_take {vs : List Vl} {k : Nat} (hk : k < vs.length) : ek (vs.take (k + 1)) = ek (vs.take k) ++ ekb vs[k] := by
  rw [List.take_add_one, List.getElem?_eq_getElem hk, ek_app]
  simp only [Option.toList_some, ek_one]

set_option maxHeartbeats 1000000 in
theorem ekS (A : Option Addr) (c : Nat) (vs : List Vl) (w : World) (hr : Rl encV 3 w A vs) (hv : vrB vs = true) :
    Calls Try.prog 42 #[.slice A vs.length c] w fun e w' => e = .returned (.string (ek vs)) ∧ Below w.heap.size w w' := by
  have hl5 : vs.length ≤ 5 := by
    unfold vrB at hv
    rw [Bool.and_eq_true, decide_eq_true_eq] at hv
    exact hv.1
  have hvs := hide (vr_mem hv)
  clear hv
  go_enter Try.func42, Try.ntmps42
  go_wp2_with fail
  go_loopw [3, 4] (fun o v wr => ∃ (k : Nat) (t : ByteArray), k ≤ vs.length ∧ v = .int .i64 k ∧ o = .string t ∧ t.size ≤ 14 * k ∧ Below w.heap.size w wr ∧ Hid (t = ek (vs.take k))) (fun _ v _ => vs.length - (intOf v).toNat)
  case atStart => exact ⟨0, ByteArray.empty, by omega, rfl, rfl, by simp, Below.refl _ _, rfl⟩
  case round =>
    obtain ⟨k, t, hk, rfl, rfl, ht, hb, hte⟩ := hrel
    by_cases hlt : k < vs.length
    · obtain ⟨b, off, rfl, c0, c1, c2⟩ := (hr.below hb).val hlt
      have hx := hvs.out _ (List.getElem_mem hlt)
      have hstep := ek_take hlt
      have hsz := (ekb_size hx).2
      have hi : (k : Int) < (vs.length : Int) := by omega
      generalize vs[k] = x at c0 c1 c2 hx hstep hsz
      have HS : Hid (ek (vs.take (k + 1)) = t ++ ekb x) := by unfold Hid; rw [hstep, hte.out]
      clear hstep
      rcases vv_kind hx with ⟨kx, nx, sx⟩ | ⟨kx, nx, nx', sx⟩ | ⟨kx, nx, sx⟩
      · have HE := hide (ekb0 kx)
        rw [kx] at c0
        clear hx kx nx sx
        go_wp2_with fail
        go_roundw
        case rel => exact ⟨k + 1, _, by omega, by go_num, rfl, by rw [ByteArray.size_append]; have : (⟨#[97]⟩ : ByteArray).size = 1 := rfl; omega, hb, by unfold Hid; rw [HS.out, HE.out]⟩
        case measure => simp [intOf]; omega
      · have HE := hide (ekb1 kx)
        have hsz' : (n4 x.n).size ≤ 4 := by unfold n4; rw [strOfNums_size]; simp
        rw [kx] at c0
        clear hx kx sx
        go_wp2_with fail
        refine (num_any x.n _ nx nx').mono ?_
        rintro e w2 ⟨rfl, hb2⟩
        go_wp2_with fail
        go_roundw
        case rel => exact ⟨k + 1, _, by omega, by go_num, rfl, by rw [ByteArray.size_append, ByteArray.size_append]; have : (⟨#[98]⟩ : ByteArray).size = 1 := rfl; omega, bt hb hb2 hb.size, by unfold Hid; rw [HS.out, HE.out, ByteArray.append_assoc]⟩
        case measure => simp [intOf]; omega
      · have HE := hide (ekb2 kx)
        have hs12 : x.s.size ≤ 12 := by
          unfold vtB at sx
          rw [Bool.and_eq_true, decide_eq_true_eq] at sx
          exact sx.1
        rw [kx] at c0
        clear hx kx sx nx
        go_wp2_with fail
        go_roundw
        case rel => exact ⟨k + 1, _, by omega, by go_num, rfl, by rw [ByteArray.size_append, ByteArray.size_append, ByteArray.size_append]; have : (⟨#[99]⟩ : ByteArray).size = 1 := rfl; have : (⟨#[1]⟩ : ByteArray).size = 1 := rfl; omega, hb, by unfold Hid; rw [HS.out, HE.out, ByteArray.append_assoc, ByteArray.append_assoc, ByteArray.append_assoc]⟩
        case measure => simp [intOf]; omega
    · obtain rfl : k = vs.length := by omega
      go_wp2_with fail
      go_ret
      exact ⟨ret_str (by rw [hte.out, List.take_length]), hb⟩

def EK (vs : List Vl) : ByteArray := if vrB vs then ek vs else ByteArray.empty
theorem EKS (A : Option Addr) (c : Nat) (vs : List Vl) (w : World) (hr : Rl encV 3 w A vs) (hf : Fit vs) (hc : vs.length ≤ 9223372036854775807) :
    Calls Try.prog 18 #[.slice A vs.length c] w fun e w' => e = .returned (.string (EK vs)) ∧ Below w.heap.size w w' := by
  cases hv : vrB vs
  · have H := hide (show EK vs = ByteArray.empty by unfold EK; rw [hv]; rfl)
    go_enter Try.func18, Try.ntmps18
    go_wp2_with fail
    refine (vrS A c vs _ hr hf hc).mono ?_
    rintro e w1 ⟨rfl, hb1⟩
    rw [hv]
    go_wp2_with fail
    go_ret
    exact ⟨ret_str H.out.symm, hb1⟩
  · have H := hide (show EK vs = ek vs by unfold EK; rw [hv]; rfl)
    go_enter Try.func18, Try.ntmps18
    go_wp2_with fail
    refine (vrS A c vs _ hr hf hc).mono ?_
    rintro e w1 ⟨rfl, hb1⟩
    rw [hv]
    go_wp2_with fail
    refine (ekS A c vs _ (hr.below hb1) hv).mono ?_
    rintro e w2 ⟨rfl, hb2⟩
    go_wp2_with fail
    go_ret
    exact ⟨ret_str H.out.symm, bt2 hb1 hb2⟩

theorem infoU8 : (Try.prog.info? 5).map (fun i => (i.zero, i.size, i.bytes)) = some (some (.int .u8 0), 1, 1) := by kernel_rfl

theorem conv_own {w : World} {B : Nat} {z : Value} {zs : List Int} (h : w.ownsRow B 5 1 z zs.length (zs.map (.int .u8))) :
    (convert 22 9 z).run Try.prog w = .ok (.string (strOfNums zs)) w := by
  obtain ⟨_, ⟨rfl, h2⟩ | ⟨g, cap, cur, rfl, _, hg, _, _, _, ht⟩⟩ := h
  · obtain rfl : zs = [] := List.eq_nil_of_length_eq_zero h2
    exact run_convert_bytes_nil (P := Try.prog) w 22 5 Try.underlying22 Try.underlying5 0 0 _ Try.underlying9
  · refine run_convert_bytes_arg (P := Try.prog) w 22 5 Try.underlying22 Try.underlying5 g 0 zs.length cap zs rfl (fun i hi => ?_) _ Try.underlying9
    rw [cell_of_row w g _ cur 5 (0, 0) hg, Nat.zero_add]
    have h4 : (cur.toList.take (zs.length * 1))[i]? = some (.int .u8 (zs.getD i 0)) := by
      rw [ht, List.getElem?_map, List.getElem?_eq_getElem hi]
      simp [List.getD_eq_getElem?_getD, hi]
    rw [List.getElem?_take_of_lt (by omega)] at h4
    simpa using h4
theorem own_str {w : World} {B e : Nat} {v : Value} {zs : List Int} {s : ByteArray} (h : w.ownsRow B e 1 v (zs.length + s.size) (zs.map (.int .u8) ++ Lib.strCells s)) : w.ownsRow B e 1 v (zs ++ nums s).length ((zs ++ nums s).map (.int .u8)) := by
  rw [List.length_append, nums_len, List.map_append, show (nums s).map (Value.int .u8) = Lib.strCells s by unfold nums Lib.strCells; rw [List.map_map]; rfl]
  exact h

set_option maxHeartbeats 1000000 in
theorem EKI (A : Option Addr) (c : Nat) (vs : List Vl) (w : World) (hr : Rl encV 3 w A vs) (hf : Fit vs) (hc : vs.length ≤ 9223372036854775807) :
    Calls Try.prog 20 #[.slice A vs.length c] w fun e w' => e = .returned (.string (EK vs)) ∧ Below w.heap.size w w' := by
  obtain ⟨i0, hi, hz0, hz1, hz2⟩ := info_parts infoU8
  have hi' := hide hi; have hz0' := hide hz0; have hz1' := hide hz1; have hz2' := hide hz2
  clear hi hz0 hz1 hz2
  cases hv : vrB vs
  · have H := hide (show EK vs = ByteArray.empty by unfold EK; rw [hv]; rfl)
    go_enter Try.func20, Try.ntmps20
    go_wp2_with fail
    refine (vrI A c vs _ hr hf hc).mono ?_
    rintro e w1 ⟨rfl, hb1⟩
    rw [hv]
    go_wp2_with fail
    go_ret
    exact ⟨ret_str H.out.symm, hb1⟩
  · have H := hide (show EK vs = ek vs by unfold EK; rw [hv]; rfl)
    have hl5 : vs.length ≤ 5 := by
      unfold vrB at hv
      rw [Bool.and_eq_true, decide_eq_true_eq] at hv
      exact hv.1
    have hvs := hide (vr_mem hv)
    go_enter Try.func20, Try.ntmps20
    go_wp2_with fail
    refine (vrI A c vs _ hr hf hc).mono ?_
    rintro e w1 ⟨rfl, hb1⟩
    rw [hv]
    clear hv
    have hr1 := hr.below hb1
    go_wp2_with fail
    go_loopw [3, 12] (fun o v wr => ∃ (k : Nat) (z : Value) (zs : List Int), k ≤ vs.length ∧ v = .int .i64 k ∧ o = z ∧ zs.length ≤ 14 * k ∧ Below w1.heap.size w1 wr ∧ wr.ownsRow w1.heap.size 5 1 z zs.length (zs.map (.int .u8)) ∧ Hid (zs = (vs.take k).flatMap kz)) (fun _ v _ => vs.length - (intOf v).toNat)
    case atStart => exact ⟨0, _, [], by omega, rfl, rfl, by simp, Below.refl _ _, ow_nil _ _ _ _, rfl⟩
    case round =>
      obtain ⟨k, z, zs, hk, rfl, rfl, hzl, hb, hown, hze⟩ := hrel
      by_cases hlt : k < vs.length
      · obtain ⟨b, off, rfl, c0, c1, c2⟩ := (hr1.below hb).val hlt
        have hx := hvs.out _ (List.getElem_mem hlt)
        have hstep : (vs.take (k + 1)).flatMap kz = (vs.take k).flatMap kz ++ kz vs[k] := by
          rw [List.take_add_one, List.getElem?_eq_getElem hlt, List.flatMap_append]
          simp
        have hsz := (ekb_size hx).2
        unfold ekb at hsz
        rw [strOfNums_size] at hsz
        have hi : (k : Int) < (vs.length : Int) := by omega
        generalize vs[k] = x at c0 c1 c2 hx hstep hsz
        have HS : Hid ((vs.take (k + 1)).flatMap kz = zs ++ kz x) := by unfold Hid; rw [hstep, hze.out]
        clear hstep
        have hbA : Below w1.heap.size w1 (wr.alloc (.cells #[.int .i64 x.k, .int .i64 x.n, .string x.s] 54)) := hb.alloc hb.size _
        have hownA := ow_below hown ((Below.refl _ wr).alloc (Nat.le_refl _) (.cells #[.int .i64 x.k, .int .i64 x.n, .string x.s] 54))
        have hge : ∀ g, u3.ownBlock = some g → w1.heap.size ≤ g := fun g hg => ow_ge hown hg
        have hsA : w1.heap.size ≤ (wr.alloc (.cells #[.int .i64 x.k, .int .i64 x.n, .string x.s] 54)).heap.size := by have := hb.size; simp; omega
        rcases vv_kind hx with ⟨kx, nx, sx⟩ | ⟨kx, nx, nx', sx⟩ | ⟨kx, nx, sx⟩
        · have HE := hide (show kz x = [97] by unfold kz; rw [if_pos kx])
          rw [kx] at c0 hbA hownA hsA
          clear hx kx nx sx
          go_wp2_with (first
            | (at_builtin; go_loud (refine wpList_bytes Try.underlying22 hi'.out hz0'.out hz1'.out hz2'.out rfl _ _ rfl w1.heap.size _ zs rfl hownA [97] _ 1 rfl rfl _ (World.size_alloc _ _) rfl (by omega) hsA ?_); intro v' w2 hown' hg2; clear hownA))
          go_roundw
          case rel => exact ⟨k + 1, _, zs ++ [97], by omega, by go_num, rfl, by simp; omega, hbA.grown hg2 hsA hge, hown', by unfold Hid; rw [HS.out, HE.out]⟩
          case measure => simp [intOf]; omega
        · have HE := hide (show kz x = [98, 48 + (x.n + 999999) / 200000, 32 + (x.n + 999999) / 4000 % 50, 32 + (x.n + 999999) / 80 % 50, 32 + (x.n + 999999) % 80] by unfold kz; rw [if_neg (by omega), if_pos kx])
          rw [kx] at c0 hbA hownA hsA
          clear hx kx sx
          go_wp2_with (first
            | (at_builtin; refine wpList_bytes Try.underlying22 hi'.out hz0'.out hz1'.out hz2'.out rfl _ _ rfl w1.heap.size _ zs rfl hownA [98, 48 + (x.n + 999999) / 200000, 32 + (x.n + 999999) / 4000 % 50, 32 + (x.n + 999999) / 80 % 50, 32 + (x.n + 999999) % 80] _ 5 rfl rfl _ (World.size_alloc _ _) rfl (by omega) hsA ?_; intro v' w2 hown' hg2; clear hownA))
          go_roundw
          case rel => exact ⟨k + 1, _, _, by omega, by go_num, rfl, by simp; omega, hbA.grown hg2 hsA hge, hown', by unfold Hid; rw [HS.out, HE.out]⟩
          case measure => simp [intOf]; omega
        · have HE := hide (show kz x = 99 :: (nums x.s ++ [1]) by unfold kz; rw [if_neg (by omega), if_neg (by omega)])
          have hs12 : x.s.size ≤ 12 := by
            unfold vtB at sx
            rw [Bool.and_eq_true, decide_eq_true_eq] at sx
            exact sx.1
          have hown2 := fun g hg => ow_lt hown (k := g) hg
          have hBx := Blk.new wr 54 #[.int .i64 x.k, .int .i64 x.n, .string x.s]
          rw [kx] at c0 hbA hownA hsA hBx
          clear hx kx sx nx
          go_wp2_with (first
            | (at_builtin; refine wpList_bytes Try.underlying22 hi'.out hz0'.out hz1'.out hz2'.out rfl _ _ rfl w1.heap.size _ zs rfl hownA [99] _ 1 rfl rfl _ (World.size_alloc _ _) rfl (by omega) hsA ?_; intro v1 w2 hownB hgB; have hbB := hbA.grown hgB hsA hge; have hBy := hBx.kept hgB (fun e => by have := hown2 _ e.symm; omega); have d2 : w2.cell? ⟨wr.heap.size, 2, none⟩ = some (.string x.s) := hBy.cell 2; have hsB := hbB.size; clear hownA hbA hBx hBy hown2)
            | (at_builtin; refine Lib.wpList_append_own_string _ rfl _ _ _ _ rfl w1.heap.size _ _ Try.underlying22 Try.underlying9 hi'.out hz0'.out hz1'.out hz2'.out _ _ _ rfl hownB x.s rfl (by unfold maxLen; simp; omega) (by simp; omega) hsB ?_; intro v2 w3 hownC' hgC _; have hownC := own_str hownC'; have hgeB := fun g hg => ow_ge (k := g) hownB hg; have hbC := hbB.grown hgC hsB hgeB; have hgeC := fun g hg => ow_ge (k := g) hownC hg; have hsC := hbC.size; clear hownB hownC' hbB hgeB)
            | (at_builtin; refine wpList_bytes Try.underlying22 hi'.out hz0'.out hz1'.out hz2'.out rfl _ _ rfl w1.heap.size _ _ rfl hownC [1] _ 1 rfl rfl _ rfl rfl (by simp [nums_len]; omega) hsC ?_; intro v3 w4 hownD hgD; have hbD := hbC.grown hgD hsC hgeC; clear hownC hbC hgeC))
          go_roundw
          case rel => exact ⟨k + 1, _, _, by omega, by go_num, rfl, by simp [nums_len]; omega, hbD, hownD, by unfold Hid; rw [HS.out, HE.out]; simp⟩
          case measure => simp [intOf]; omega
      · obtain rfl : k = vs.length := by omega
        have hcv := conv_own hown
        go_wp2_with fail
        go_ret
        exact ⟨ret_str (by rw [H.out, hze.out, List.take_length]; rfl), bt2 hb1 hb⟩

end Go.Proofs.Ytoofioemjgeifaa
