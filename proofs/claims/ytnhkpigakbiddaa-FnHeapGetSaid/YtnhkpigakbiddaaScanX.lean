/-
  The exact statement about HeapScan, walked. Conditions: the pages read as a list, and the slots of each.
-/
import Derived.Test.YtnhkpigakbiddaaScanM
namespace Go.Proofs.Ytnhkpigakbiddaa
open Go.RowKit
set_option linter.unusedVariables false
set_option linter.unusedSimpArgs false

theorem sck_len {css : List (List Sl)} (h : ∀ c ∈ css, c.length ≤ 8) : ∀ k, k ≤ css.length → (sck css k).length ≤ 8 * k := by
  intro k
  induction k with
  | zero => intro _; simp [sck]
  | succ k ih =>
    intro hk
    rw [sck_step (by omega), List.length_append]
    have h1 := ih (by omega)
    have h2 := scp_len k css[k] css[k].length
    have h3 := h _ (List.getElem_mem (show k < css.length by omega))
    omega
theorem SC_len {css : List (List Sl)} : (SC css).length ≤ 48 := by
  unfold SC
  split
  · rename_i h
    unfold vh at h
    rw [Bool.and_eq_true, decide_eq_true_eq, List.all_eq_true] at h
    have := sck_len (css := css) (fun c hc => by
      have := h.2 c hc
      unfold vp at this
      simp only [Bool.and_eq_true, decide_eq_true_eq] at this
      exact this.1.1.1) css.length (Nat.le_refl _)
    omega
  · simp
theorem tG_xss {gs ps : List Pg} (h : xss gs = xss ps) : tG gs gs.length = tG ps ps.length := by
  have e : ∀ qs : List Pg, tG qs qs.length = ((xss qs).map totP).sum := fun qs => by
    unfold tG xss
    rw [List.take_length, List.map_map]
    rfl
  rw [e, e, h]
theorem Fil.rl {α : Type} {enc : α → List Value} {size : Nat} {xs : List α} {g N : Nat} {T : TypeId} {w : World} (h : Fil g T N (xs.length * size) (xs.flatMap enc) w) (hs : ∀ x, (enc x).length = size) : Rl enc size w (some ⟨g, 0, none⟩) xs := by
  refine .inr ⟨g, 0, rfl, fun i x hx j u hu => ?_⟩
  have hq := getElem?_flatMap_size hs xs i j x u hx hu
  rw [Nat.zero_add]
  refine h.at ?_ hq
  have := (List.getElem?_eq_some_iff.1 hq).1
  rwa [length_flatMap_size hs] at this
theorem Pgs.below {lo hi g : Nat} {gs : List Pg} {w w' : World} (h : Pgs lo hi g gs w) (hb : Below w.heap.size w w') : Pgs lo hi g gs w' := fun q hq => by
  obtain ⟨b, a1, a2, a3, a4, a5⟩ := h q hq
  exact ⟨b, a1, a2, a3, a4, a5.below hb⟩
def RidO (zs : List (Int × Int)) (w : World) (e : Ending) (w' : World) : Prop :=
  ∃ A c, e = .returned (.slice A zs.length c) ∧ Below w.heap.size w w' ∧ (zs = [] ∨ ∃ g, A = some ⟨g, 0, none⟩ ∧ w.heap.size ≤ g ∧ zs.length ≤ c ∧ Fil g 60 (c * 2) (zs.length * 2) (zs.flatMap encQ) w')
theorem rid_open {zs : List (Int × Int)} {w w' : World} {v : Value} (hb : Below w.heap.size w w') (hown : w'.ownsRow w.heap.size 60 2 v zs.length (zs.flatMap encQ)) : RidO zs w (.returned v) w' := by
  rcases hown.2 with ⟨hv, h0⟩ | ⟨g, cap, cur, hv, hB, hg, hnc, _, hz, htk⟩
  · have hn : zs = [] := List.eq_nil_of_length_eq_zero h0
    subst hv hn
    exact ⟨none, 0, rfl, hb, .inl rfl⟩
  · subst hv
    refine ⟨some ⟨g, 0, none⟩, cap, rfl, hb, .inr ⟨g, rfl, hB, hnc, cur, hg, hz, fun p u hp hu => ?_⟩⟩
    have h2 := congrArg (fun l => l[p]?) htk
    simp only [List.getElem?_take, if_pos hp, Array.getElem?_toList] at h2
    rw [h2]
    exact hu

set_option maxHeartbeats 4000000 in
theorem exactSc_walk (A : Option Addr) (c : Nat) (ps : List Pg) (w : World) (hr : Hp w A ps) (hf : FitG ps) (hc : ps.length ≤ c) (hm : c ≤ 9223372036854775807) :
    Calls Try.prog 13 #[.agg #[.slice A ps.length c]] w fun e w' => e = .returned (.bool true) ∧ Below w.heap.size w w' := by
  have S1 := szG_lo 1048576 ps
  have hok := hide (fun h => And.intro (small_of (szG_ok (left := 1048576) (ps := ps) h)) (szG_ok (left := 1048576) (ps := ps) h))
  generalize hs1 : szG 1048576 ps = s1 at S1 hok
  have hs1' := hide hs1
  clear hs1
  have hS : Hid (∀ (A : Option Addr) (c : Nat) (qs : List Pg) W, Hp W A qs → Small qs → xss qs = xss ps → Calls Try.prog 34 #[.agg #[.slice A qs.length c]] W (RidO (SC (xss ps)) W)) := fun A c qs W h1 h2 h3 => by
    have := (scS A c qs W h1 h2).mono fun _ _ ⟨v, h4, h5, h6⟩ => by subst h4; exact rid_open h5 h6
    rwa [h3] at this
  have hI : Hid (∀ (A : Option Addr) (c : Nat) (qs : List Pg) W, Hp W A qs → Small qs → xss qs = xss ps → Calls Try.prog 32 #[.agg #[.slice A qs.length c]] W (RidO (SC (xss ps)) W)) := fun A c qs W h1 h2 h3 => by
    have := (scI A c qs W h1 h2).mono fun _ _ ⟨v, h4, h5, h6⟩ => by subst h4; exact rid_open h5 h6
    rwa [h3] at this
  have hl := SC_len (css := xss ps)
  generalize SC (xss ps) = zs at hS hI hl
  have hb0 : Below w.heap.size w (w.alloc (.cells #[.slice A ps.length c] 51)) := (Below.refl _ _).alloc (Nat.le_refl _) _
  have kB := Blk.new w 51 #[.slice A ps.length c]
  have hr0 := hr
  replace hr := hr.below hb0
  go_enter Try.func13, Try.ntmps13
  go_wp2_with fail
  generalize w.alloc (.cells #[.slice A ps.length c] 51) = w0 at hr hb0 kB
  refine (szHp A c ps 1048576 _ hr hf (by omega) (by omega) (by omega)).mono ?_
  rintro e w1 ⟨rfl, hb1⟩
  rw [hs1'.out]
  have hbb := bt hb0 hb1 hb0.size
  replace hr := hr.below hb1
  replace kB := kB.below hb1
  have hwB : w.heap.size < w1.heap.size := kB.lt
  clear hb0 hb1
  have ckB0 : w1.cell? ⟨w.heap.size, 0, none⟩ = some (.slice A ps.length c) := kB.cell 0
  by_cases h1 : s1 < 0
  · go_wp2_with fail
    go_ret
    exact ⟨rfl, hbb⟩
  · obtain ⟨sm, hsum⟩ := hok.out (by omega)
    have hps := sm.1
    go_wp2_with fail
    refine (toHe A c ps _ hr sm).mono ?_
    rintro e w2 ⟨g2, gs2, rfl, hx2, r2, hbs, hg2, HP2⟩
    have hl2 : ps.length = gs2.length := by have := congrArg List.length hx2; rw [xss_len, xss_len] at this; exact this.symm
    have sm2 := small_as hx2 sm
    rw [hl2]
    clear ckB0
    replace hr := hr.below hbs
    replace kB := kB.below hbs
    replace hbb := bt2 hbb hbs
    have hsz2 := hbs.size
    clear hbs
    have ckB0 : w2.cell? ⟨w.heap.size, 0, none⟩ = some (Value.slice A ps.length c) := kB.cell 0
    have hx2' := hide hx2
    clear hx2 hl2
    go_wp2_with fail
    refine (hS.out _ _ gs2 _ r2 sm2 hx2'.out).mono ?_
    rintro e w3 ⟨A6, c6, rfl, hbs, ho6⟩
    clear ckB0
    replace hr := hr.below hbs
    replace kB := kB.below hbs
    replace hbb := bt2 hbb hbs
    have hszw3 := hbs.size
    clear hbs
    have ckB0 : w3.cell? ⟨w.heap.size, 0, none⟩ = some (Value.slice A ps.length c) := kB.cell 0
    clear r2 hg2 HP2 sm2
    by_cases he : zs = []
    · subst he
      clear ho6
      go_wp2_with fail
      refine (toHe A c ps _ hr sm).mono ?_
      rintro e w4 ⟨g4, gs4, rfl, hx4, r4, hbs, hg4, HP4⟩
      have hl4 : ps.length = gs4.length := by have := congrArg List.length hx4; rw [xss_len, xss_len] at this; exact this.symm
      have sm4 := small_as hx4 sm
      rw [hl4]
      clear ckB0
      replace hr := hr.below hbs
      replace kB := kB.below hbs
      replace hbb := bt2 hbb hbs
      have hsz4 := hbs.size
      clear hbs
      have ckB0 : w4.cell? ⟨w.heap.size, 0, none⟩ = some (Value.slice A ps.length c) := kB.cell 0
      have hx4' := hide hx4
      have hl4' := hide hl4
      have hT : tG gs4 gs4.length ≤ 1048576 := by have := tG_xss hx4; omega
      have PG : Hid (Pgs w3.heap.size w4.heap.size g4 gs4 w4) := fun q hq => by
        obtain ⟨b, a1, a2, a3, a4⟩ := HP4 q hq
        exact ⟨b, a1, a2, a3.lt, a4, Slo.of_fil a3⟩
      clear HP4 hx4 hl4
      have hbx : Below w4.heap.size w4 (w4.alloc (.cells #[Value.slice (some ⟨g4, 0, none⟩) gs4.length gs4.length] 46)) := (Below.refl _ _).alloc (Nat.le_refl _) _
      clear ckB0
      replace hr := hr.below hbx
      replace kB := kB.below hbx
      replace r4 := r4.below hbx
      replace hbb := bt2 hbb hbx
      replace PG := hide (PG.out.below hbx)
      have k7 := Blk.new w4 46 #[Value.slice (some ⟨g4, 0, none⟩) gs4.length gs4.length]
      have hzk7 : w4.heap.size < (w4.alloc (.cells #[Value.slice (some ⟨g4, 0, none⟩) gs4.length gs4.length] 46)).heap.size := by simp
      have ckB0 : (w4.alloc (.cells #[Value.slice (some ⟨g4, 0, none⟩) gs4.length gs4.length] 46)).cell? ⟨w.heap.size, 0, none⟩ = some (Value.slice A ps.length c) := kB.cell 0
      have ck70 : (w4.alloc (.cells #[Value.slice (some ⟨g4, 0, none⟩) gs4.length gs4.length] 46)).cell? ⟨w4.heap.size, 0, none⟩ = some (Value.slice (some ⟨g4, 0, none⟩) gs4.length gs4.length) := k7.cell 0
      clear hbx
      go_wp2_with fail
      generalize w4.alloc (.cells #[Value.slice (some ⟨g4, 0, none⟩) gs4.length gs4.length] 46) = w4x at hr kB r4 k7 PG hbb hzk7 ckB0 ck70
      replace ck70 : w4x.cell? ⟨w4.heap.size, 0, none⟩ = some (Value.slice (some ⟨g4, 0, none⟩) gs4.length gs4.length) := ck70
      refine (hI.out _ _ gs4 _ r4 sm4 hx4'.out).mono ?_
      rintro e w5 ⟨A8, c8, rfl, hbs, ho8⟩
      clear ckB0 ck70
      replace hr := hr.below hbs
      replace kB := kB.below hbs
      replace r4 := r4.below hbs
      replace k7 := k7.below hbs
      replace hbb := bt2 hbb hbs
      replace PG := hide (PG.out.below hbs)
      have hszw5 := hbs.size
      clear hbs
      have ckB0 : w5.cell? ⟨w.heap.size, 0, none⟩ = some (Value.slice A ps.length c) := kB.cell 0
      have ck70 : w5.cell? ⟨w4.heap.size, 0, none⟩ = some (Value.slice (some ⟨g4, 0, none⟩) gs4.length gs4.length) := k7.cell 0
      clear ho8
      go_wp2_with fail
      refine (eqRs _ _ _ _ [] _ Rl.nil Rl.nil (by simp)).mono ?_
      rintro e w6 ⟨rfl, hbs⟩
      clear ckB0 ck70
      replace hr := hr.below hbs
      replace kB := kB.below hbs
      replace r4 := r4.below hbs
      replace k7 := k7.below hbs
      replace hbb := bt2 hbb hbs
      replace PG := hide (PG.out.below hbs)
      have hszw6 := hbs.size
      clear hbs
      have ckB0 : w6.cell? ⟨w.heap.size, 0, none⟩ = some (Value.slice A ps.length c) := kB.cell 0
      have ck70 : w6.cell? ⟨w4.heap.size, 0, none⟩ = some (Value.slice (some ⟨g4, 0, none⟩) gs4.length gs4.length) := k7.cell 0
      go_wp2_with fail
      have hbx : Below w6.heap.size w6 w6.drew := (Below.refl _ _).drew
      go_region_held3 (fun w' => w'.cell? ⟨w.heap.size, 0, none⟩ = some (.slice A ps.length c) ∧ w'.cell? ⟨w4.heap.size, 0, none⟩ = some (.slice (some ⟨g4, 0, none⟩) gs4.length gs4.length))
        (first | exact ⟨cell_on hbx ckB0, cell_on hbx ck70⟩)
        (first
          | (go_at_call 29; refine (toHk A c ps _ (hr.below hbx) sm).mono ?_; rintro e w7 ⟨g7, gs7, rfl, hx7, sm7, r7, hq⟩; replace hx7 := hide (hx4'.out.trans hx7.symm); replace hbx := bt2 hbx hq)
          | (go_at_call 30; refine (eqHp _ _ _ _ gs4 gs7 _ (r4.below hbx) r7 hx7.out sm4).mono ?_; rintro e w8 ⟨rfl, hq⟩; replace hbx := bt2 hbx hq))
      clear ckB0 ck70
      replace hr := hr.below hbx
      replace kB := kB.below hbx
      replace r4 := r4.below hbx
      replace k7 := k7.below hbx
      replace hbb := bt2 hbb hbx
      replace PG := hide (PG.out.below hbx)
      have hsz8 := hbx.size
      clear hbx sm7 r7 hx7
      have ckB0 : w8.cell? ⟨w.heap.size, 0, none⟩ = some (Value.slice A ps.length c) := kB.cell 0
      have ck70 : w8.cell? ⟨w4.heap.size, 0, none⟩ = some (Value.slice (some ⟨g4, 0, none⟩) gs4.length gs4.length) := k7.cell 0
      go_wp2_with fail
      refine (markHp_any g4 1 w3.heap.size w4.heap.size _ gs4 _ r4.1 PG.out (by omega) (by have := hl4'.out; omega) (by omega)).mono ?_
      rintro e w9 ⟨rk, rfl, hrk, hM⟩
      have hk9 := hM.size
      clear ckB0 ck70
      clear r4 PG
      replace hbb := hM.under hbb (by omega) hbb.size
      replace hr := hr0.below hbb
      replace kB := hM.blk kB (by omega)
      replace k7 := hM.blk k7 (by omega)
      clear hM
      have ckB0 : w9.cell? ⟨w.heap.size, 0, none⟩ = some (Value.slice A ps.length c) := kB.cell 0
      have ck70 : w9.cell? ⟨w4.heap.size, 0, none⟩ = some (Value.slice (some ⟨g4, 0, none⟩) gs4.length gs4.length) := k7.cell 0
      have hmk : ¬ ((rk : Int) < 0) := by omega
      go_wp2_with fail
      clear hmk
      refine (eqRs _ _ _ _ [] _ Rl.nil Rl.nil (by simp)).mono ?_
      rintro e w10 ⟨rfl, hbs⟩
      clear ckB0 ck70
      replace hr := hr.below hbs
      replace kB := kB.below hbs
      replace k7 := k7.below hbs
      replace hbb := bt2 hbb hbs
      have hszw10 := hbs.size
      clear hbs
      have ckB0 : w10.cell? ⟨w.heap.size, 0, none⟩ = some (Value.slice A ps.length c) := kB.cell 0
      have ck70 : w10.cell? ⟨w4.heap.size, 0, none⟩ = some (Value.slice (some ⟨g4, 0, none⟩) gs4.length gs4.length) := k7.cell 0
      go_wp2_with fail
      refine (markQ0 A8 c8 1 _).mono ?_
      rintro e w11 ⟨rfl, rfl⟩
      go_wp2_with fail
      refine (heldQ0 A8 c8 1 _).mono ?_
      rintro e w12 ⟨rfl, rfl⟩
      go_wp2_with fail
      refine (toHe A c ps _ hr sm).mono ?_
      rintro e w13 ⟨g13, gs13, rfl, hx13, r13, hbs, hg13, HP13⟩
      have hl13 : ps.length = gs13.length := by have := congrArg List.length hx13; rw [xss_len, xss_len] at this; exact this.symm
      have sm13 := small_as hx13 sm
      rw [hl13]
      clear ckB0 ck70
      replace hr := hr.below hbs
      replace kB := kB.below hbs
      replace k7 := k7.below hbs
      replace hbb := bt2 hbb hbs
      have hsz13 := hbs.size
      clear hbs
      have ckB0 : w13.cell? ⟨w.heap.size, 0, none⟩ = some (Value.slice A ps.length c) := kB.cell 0
      have ck70 : w13.cell? ⟨w4.heap.size, 0, none⟩ = some (Value.slice (some ⟨g4, 0, none⟩) gs4.length gs4.length) := k7.cell 0
      have hx13' := hide hx13
      clear hx13 hl13
      go_wp2_with fail
      refine (hI.out _ _ gs13 _ r13 sm13 hx13'.out).mono ?_
      rintro e w14 ⟨A14, c14, rfl, hbs, ho14⟩
      clear ckB0 ck70
      replace hr := hr.below hbs
      replace kB := kB.below hbs
      replace k7 := k7.below hbs
      replace hbb := bt2 hbb hbs
      have hszw14 := hbs.size
      clear hbs
      have ckB0 : w14.cell? ⟨w.heap.size, 0, none⟩ = some (Value.slice A ps.length c) := kB.cell 0
      have ck70 : w14.cell? ⟨w4.heap.size, 0, none⟩ = some (Value.slice (some ⟨g4, 0, none⟩) gs4.length gs4.length) := k7.cell 0
      clear ho14
      clear r13 hg13 HP13 sm13
      go_wp2_with fail
      refine (eqRs _ _ _ _ [] _ Rl.nil Rl.nil (by simp)).mono ?_
      rintro e w15 ⟨rfl, hbs⟩
      clear ckB0 ck70
      replace hr := hr.below hbs
      replace kB := kB.below hbs
      replace k7 := k7.below hbs
      replace hbb := bt2 hbb hbs
      have hszw15 := hbs.size
      clear hbs
      have ckB0 : w15.cell? ⟨w.heap.size, 0, none⟩ = some (Value.slice A ps.length c) := kB.cell 0
      have ck70 : w15.cell? ⟨w4.heap.size, 0, none⟩ = some (Value.slice (some ⟨g4, 0, none⟩) gs4.length gs4.length) := k7.cell 0
      go_wp2_with fail
      refine (heldQ0 A8 c8 1 _).mono ?_
      rintro e w16 ⟨rfl, rfl⟩
      go_wp2_with fail
      go_ret
      exact ⟨rfl, hbb⟩
    · obtain ⟨g6, rfl, hg6, hcl6, Q6⟩ := ho6.resolve_left he
      have hg6l := Q6.lt
      go_wp2_with fail
      refine (toHe A c ps _ hr sm).mono ?_
      rintro e w4 ⟨g4, gs4, rfl, hx4, r4, hbs, hg4, HP4⟩
      have hl4 : ps.length = gs4.length := by have := congrArg List.length hx4; rw [xss_len, xss_len] at this; exact this.symm
      have sm4 := small_as hx4 sm
      rw [hl4]
      clear ckB0
      replace hr := hr.below hbs
      replace kB := kB.below hbs
      replace Q6 := Q6.below hbs
      replace hbb := bt2 hbb hbs
      have hsz4 := hbs.size
      clear hbs
      have ckB0 : w4.cell? ⟨w.heap.size, 0, none⟩ = some (Value.slice A ps.length c) := kB.cell 0
      have hx4' := hide hx4
      have hl4' := hide hl4
      have hT : tG gs4 gs4.length ≤ 1048576 := by have := tG_xss hx4; omega
      have PG : Hid (Pgs w3.heap.size w4.heap.size g4 gs4 w4) := fun q hq => by
        obtain ⟨b, a1, a2, a3, a4⟩ := HP4 q hq
        exact ⟨b, a1, a2, a3.lt, a4, Slo.of_fil a3⟩
      clear HP4 hx4 hl4
      have hbx : Below w4.heap.size w4 (w4.alloc (.cells #[Value.slice (some ⟨g4, 0, none⟩) gs4.length gs4.length] 46)) := (Below.refl _ _).alloc (Nat.le_refl _) _
      clear ckB0
      replace hr := hr.below hbx
      replace kB := kB.below hbx
      replace Q6 := Q6.below hbx
      replace r4 := r4.below hbx
      replace hbb := bt2 hbb hbx
      replace PG := hide (PG.out.below hbx)
      have k7 := Blk.new w4 46 #[Value.slice (some ⟨g4, 0, none⟩) gs4.length gs4.length]
      have hzk7 : w4.heap.size < (w4.alloc (.cells #[Value.slice (some ⟨g4, 0, none⟩) gs4.length gs4.length] 46)).heap.size := by simp
      have ckB0 : (w4.alloc (.cells #[Value.slice (some ⟨g4, 0, none⟩) gs4.length gs4.length] 46)).cell? ⟨w.heap.size, 0, none⟩ = some (Value.slice A ps.length c) := kB.cell 0
      have ck70 : (w4.alloc (.cells #[Value.slice (some ⟨g4, 0, none⟩) gs4.length gs4.length] 46)).cell? ⟨w4.heap.size, 0, none⟩ = some (Value.slice (some ⟨g4, 0, none⟩) gs4.length gs4.length) := k7.cell 0
      clear hbx
      go_wp2_with fail
      generalize w4.alloc (.cells #[Value.slice (some ⟨g4, 0, none⟩) gs4.length gs4.length] 46) = w4x at hr kB Q6 r4 k7 PG hbb hzk7 ckB0 ck70
      replace ck70 : w4x.cell? ⟨w4.heap.size, 0, none⟩ = some (Value.slice (some ⟨g4, 0, none⟩) gs4.length gs4.length) := ck70
      refine (hI.out _ _ gs4 _ r4 sm4 hx4'.out).mono ?_
      rintro e w5 ⟨A8, c8, rfl, hbs, ho8⟩
      clear ckB0 ck70
      replace hr := hr.below hbs
      replace kB := kB.below hbs
      replace Q6 := Q6.below hbs
      replace r4 := r4.below hbs
      replace k7 := k7.below hbs
      replace hbb := bt2 hbb hbs
      replace PG := hide (PG.out.below hbs)
      have hszw5 := hbs.size
      clear hbs
      have ckB0 : w5.cell? ⟨w.heap.size, 0, none⟩ = some (Value.slice A ps.length c) := kB.cell 0
      have ck70 : w5.cell? ⟨w4.heap.size, 0, none⟩ = some (Value.slice (some ⟨g4, 0, none⟩) gs4.length gs4.length) := k7.cell 0
      obtain ⟨g8, rfl, hg8, hcl8, Q8⟩ := ho8.resolve_left he
      have hg8l := Q8.lt
      go_wp2_with fail
      refine (eqRs _ _ _ _ zs _ (Q8.rl encQ_len) (Q6.rl encQ_len) (by omega)).mono ?_
      rintro e w6 ⟨rfl, hbs⟩
      clear ckB0 ck70
      replace hr := hr.below hbs
      replace kB := kB.below hbs
      replace Q6 := Q6.below hbs
      replace r4 := r4.below hbs
      replace k7 := k7.below hbs
      replace Q8 := Q8.below hbs
      replace hbb := bt2 hbb hbs
      replace PG := hide (PG.out.below hbs)
      have hszw6 := hbs.size
      clear hbs
      have ckB0 : w6.cell? ⟨w.heap.size, 0, none⟩ = some (Value.slice A ps.length c) := kB.cell 0
      have ck70 : w6.cell? ⟨w4.heap.size, 0, none⟩ = some (Value.slice (some ⟨g4, 0, none⟩) gs4.length gs4.length) := k7.cell 0
      go_wp2_with fail
      have hbx : Below w6.heap.size w6 w6.drew := (Below.refl _ _).drew
      go_region_held3 (fun w' => w'.cell? ⟨w.heap.size, 0, none⟩ = some (.slice A ps.length c) ∧ w'.cell? ⟨w4.heap.size, 0, none⟩ = some (.slice (some ⟨g4, 0, none⟩) gs4.length gs4.length))
        (first | exact ⟨cell_on hbx ckB0, cell_on hbx ck70⟩)
        (first
          | (go_at_call 29; refine (toHk A c ps _ (hr.below hbx) sm).mono ?_; rintro e w7 ⟨g7, gs7, rfl, hx7, sm7, r7, hq⟩; replace hx7 := hide (hx4'.out.trans hx7.symm); replace hbx := bt2 hbx hq)
          | (go_at_call 30; refine (eqHp _ _ _ _ gs4 gs7 _ (r4.below hbx) r7 hx7.out sm4).mono ?_; rintro e w8 ⟨rfl, hq⟩; replace hbx := bt2 hbx hq))
      clear ckB0 ck70
      replace hr := hr.below hbx
      replace kB := kB.below hbx
      replace Q6 := Q6.below hbx
      replace r4 := r4.below hbx
      replace k7 := k7.below hbx
      replace Q8 := Q8.below hbx
      replace hbb := bt2 hbb hbx
      replace PG := hide (PG.out.below hbx)
      have hsz8 := hbx.size
      clear hbx sm7 r7 hx7
      have ckB0 : w8.cell? ⟨w.heap.size, 0, none⟩ = some (Value.slice A ps.length c) := kB.cell 0
      have ck70 : w8.cell? ⟨w4.heap.size, 0, none⟩ = some (Value.slice (some ⟨g4, 0, none⟩) gs4.length gs4.length) := k7.cell 0
      go_wp2_with fail
      refine (markHp_any g4 1 w3.heap.size w4.heap.size _ gs4 _ r4.1 PG.out (by omega) (by have := hl4'.out; omega) (by omega)).mono ?_
      rintro e w9 ⟨rk, rfl, hrk, hM⟩
      have hk9 := hM.size
      clear ckB0 ck70
      clear r4 PG
      replace hbb := hM.under hbb (by omega) hbb.size
      replace hr := hr0.below hbb
      replace kB := hM.blk kB (by omega)
      replace k7 := hM.blk k7 (by omega)
      replace Q6 := hM.fil Q6 (by omega)
      replace Q8 := hM.fil Q8 (by omega)
      clear hM
      have ckB0 : w9.cell? ⟨w.heap.size, 0, none⟩ = some (Value.slice A ps.length c) := kB.cell 0
      have ck70 : w9.cell? ⟨w4.heap.size, 0, none⟩ = some (Value.slice (some ⟨g4, 0, none⟩) gs4.length gs4.length) := k7.cell 0
      have hmk : ¬ ((rk : Int) < 0) := by omega
      go_wp2_with fail
      clear hmk
      refine (eqRs _ _ _ _ zs _ (Q8.rl encQ_len) (Q6.rl encQ_len) (by omega)).mono ?_
      rintro e w10 ⟨rfl, hbs⟩
      clear ckB0 ck70
      replace hr := hr.below hbs
      replace kB := kB.below hbs
      replace Q6 := Q6.below hbs
      replace k7 := k7.below hbs
      replace Q8 := Q8.below hbs
      replace hbb := bt2 hbb hbs
      have hszw10 := hbs.size
      clear hbs
      have ckB0 : w10.cell? ⟨w.heap.size, 0, none⟩ = some (Value.slice A ps.length c) := kB.cell 0
      have ck70 : w10.cell? ⟨w4.heap.size, 0, none⟩ = some (Value.slice (some ⟨g4, 0, none⟩) gs4.length gs4.length) := k7.cell 0
      go_wp2_with fail
      obtain ⟨arr8, b8, z8, _⟩ := Q8
      have Q8z : Fil g8 60 (c8 * 2) 0 [] w10 := ⟨arr8, b8, z8, fun p u h => absurd h (by omega)⟩
      clear b8 z8
      refine (markQ_any g8 zs.length c8 c8 1 _ _ Q8z hcl8 (by omega)).mono ?_
      rintro e w11 ⟨rfl, hg, hF⟩
      have hsz11 := hg.size
      clear ckB0 ck70
      clear Q8z
      replace hbb := below_of_grown hbb hg (by omega) hbb.size
      replace hr := hr0.below hbb
      replace kB := kB.kept hg (by simp; omega)
      replace k7 := k7.kept hg (by simp; omega)
      replace Q6 := Q6.kept hg (by simp; omega)
      clear hg
      have ckB0 : w11.cell? ⟨w.heap.size, 0, none⟩ = some (Value.slice A ps.length c) := kB.cell 0
      have ck70 : w11.cell? ⟨w4.heap.size, 0, none⟩ = some (Value.slice (some ⟨g4, 0, none⟩) gs4.length gs4.length) := k7.cell 0
      go_wp2_with fail
      have hm1 : ¬ ((((1 : Nat) : Int) + 2 * zs.length) < 0) := by omega
      have hm2 : ¬ ((1 : Int) + 2 * zs.length < 0) := by omega
      have hm3 : ((1 : Int) + 2 * zs.length != 1 + 2 * zs.length) = false := by simp
      refine (heldQ_any g8 zs.length c8 c8 1 _ hF hcl8 (by omega)).mono ?_
      rintro e w12 ⟨rfl, rfl⟩
      go_wp2_with fail
      refine (toHe A c ps _ hr sm).mono ?_
      rintro e w13 ⟨g13, gs13, rfl, hx13, r13, hbs, hg13, HP13⟩
      have hl13 : ps.length = gs13.length := by have := congrArg List.length hx13; rw [xss_len, xss_len] at this; exact this.symm
      have sm13 := small_as hx13 sm
      rw [hl13]
      clear ckB0 ck70
      replace hr := hr.below hbs
      replace kB := kB.below hbs
      replace Q6 := Q6.below hbs
      replace k7 := k7.below hbs
      replace hF := hF.below hbs
      replace hbb := bt2 hbb hbs
      have hsz13 := hbs.size
      clear hbs
      have ckB0 : w13.cell? ⟨w.heap.size, 0, none⟩ = some (Value.slice A ps.length c) := kB.cell 0
      have ck70 : w13.cell? ⟨w4.heap.size, 0, none⟩ = some (Value.slice (some ⟨g4, 0, none⟩) gs4.length gs4.length) := k7.cell 0
      have hx13' := hide hx13
      clear hx13 hl13
      go_wp2_with fail
      refine (hI.out _ _ gs13 _ r13 sm13 hx13'.out).mono ?_
      rintro e w14 ⟨A14, c14, rfl, hbs, ho14⟩
      clear ckB0 ck70
      replace hr := hr.below hbs
      replace kB := kB.below hbs
      replace Q6 := Q6.below hbs
      replace k7 := k7.below hbs
      replace hF := hF.below hbs
      replace hbb := bt2 hbb hbs
      have hszw14 := hbs.size
      clear hbs
      have ckB0 : w14.cell? ⟨w.heap.size, 0, none⟩ = some (Value.slice A ps.length c) := kB.cell 0
      have ck70 : w14.cell? ⟨w4.heap.size, 0, none⟩ = some (Value.slice (some ⟨g4, 0, none⟩) gs4.length gs4.length) := k7.cell 0
      obtain ⟨g14, rfl, hg14, hcl14, Q14⟩ := ho14.resolve_left he
      clear r13 hg13 HP13 sm13
      go_wp2_with fail
      refine (eqRs _ _ _ _ zs _ (Q14.rl encQ_len) (Q6.rl encQ_len) (by omega)).mono ?_
      rintro e w15 ⟨rfl, hbs⟩
      clear ckB0 ck70
      replace hr := hr.below hbs
      replace kB := kB.below hbs
      replace Q6 := Q6.below hbs
      replace k7 := k7.below hbs
      replace hF := hF.below hbs
      replace Q14 := Q14.below hbs
      replace hbb := bt2 hbb hbs
      have hszw15 := hbs.size
      clear hbs
      have ckB0 : w15.cell? ⟨w.heap.size, 0, none⟩ = some (Value.slice A ps.length c) := kB.cell 0
      have ck70 : w15.cell? ⟨w4.heap.size, 0, none⟩ = some (Value.slice (some ⟨g4, 0, none⟩) gs4.length gs4.length) := k7.cell 0
      go_wp2_with fail
      refine (heldQ_any g8 zs.length c8 c8 1 _ hF hcl8 (by omega)).mono ?_
      rintro e w16 ⟨rfl, rfl⟩
      go_wp2_with fail
      go_ret
      exact ⟨rfl, hbb⟩

end Go.Proofs.Ytnhkpigakbiddaa
