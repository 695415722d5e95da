/-
  The statement that the order leads on. Conditions: the argument reads as a list of bytes.
-/
import Derived.Test.YtngmiaglbmkbcaaVL3
import Derived.Test.YtngmiaglbmkbcaaRows2
import Derived.Deep.RegionHeld3
import Derived.Deep.DrawnRows
namespace Go.Proofs.Ytngmiaglbmkbcaa
open Go.RowKit
set_option linter.unusedVariables false
set_option linter.unusedSimpArgs false

/-- The three values that the statement asks about. -/
def three (z : Int) : List Vl := [⟨0, 0, ByteArray.empty⟩, ⟨1, z, ByteArray.empty⟩, ⟨2, 0, ⟨#[98]⟩⟩]
theorem three_ok {z : Int} (h0 : -20 ≤ z) (h1 : z ≤ 19) : ∀ x ∈ three z, vv x = true ∧ x.s.size ≤ 13 := by
  intro x hx
  simp only [three, List.mem_cons, List.not_mem_nil, or_false] at hx
  rcases hx with rfl | rfl | rfl
  · exact ⟨by decide +kernel, by decide⟩
  · refine ⟨?_, by show ByteArray.empty.size ≤ 13; decide⟩
    unfold vv vvB
    rw [if_neg (by simp), if_pos rfl, show emp ByteArray.empty = true by decide +kernel, Bool.and_true, rng_iff]
    dsimp only
    omega
  · exact ⟨by decide +kernel, by decide⟩

theorem three_rl (w : World) (z : Int) : Rl encV 3 (w.alloc (.cells #[.int .i64 0, .int .i64 0, .string ⟨#[]⟩, .int .i64 1, .int .i64 z, .string ⟨#[]⟩, .int .i64 2, .int .i64 0, .string ⟨#[98]⟩] 28)) (some ⟨w.heap.size, 0, none⟩) (three z) := by
  refine .inr ⟨_, 0, rfl, fun k x hx j u hu => ?_⟩
  rw [Nat.zero_add, (Blk.new w 28 _).cell]
  match k, hx with
  | 0, hx =>
    cases hx
    match j, hu with
    | 0, hu => exact hu
    | 1, hu => exact hu
    | 2, hu => exact hu
  | 1, hx =>
    cases hx
    match j, hu with
    | 0, hu => exact hu
    | 1, hu => exact hu
    | 2, hu => exact hu
  | 2, hx =>
    cases hx
    match j, hu with
    | 0, hu => exact hu
    | 1, hu => exact hu
    | 2, hu => exact hu
set_option maxHeartbeats 8000000 in
theorem threeLaw_walk (A : Option Addr) (c : Nat) (zs : List Int) (w : World) (h : Bytes w A c zs) :
    Calls Try.prog 8 #[.slice A zs.length c] w fun e w' => e = .returned (.bool true) ∧ Below w.heap.size w w' := by
  have hcap := h.cap
  have hmax := h.max
  by_cases hl : 1048576 < zs.length
  · go_enter Try.func8, Try.ntmps8
    go_wp2
    go_ret
    exact ⟨rfl, Below.refl _ _⟩
  · go_enter Try.func8, Try.ntmps8
    go_wp2_with fail
    refine (drawTwo A c zs _ h).mono ?_
    rintro e w1 ⟨a, b, rfl, sa, sb, hb1⟩
    have hI : Hid (∀ W, Calls Try.prog 19 #[.agg #[.int .i64 a.k, .int .i64 a.n, .string a.s], .agg #[.int .i64 b.k, .int .i64 b.n, .string b.s]] W fun e w' => e = .returned (.int .i64 (cv a b)) ∧ Below W.heap.size W w') := fun W => cvI a b W (by omega) (by omega)
    have hS : Hid (∀ W, Calls Try.prog 18 #[.agg #[.int .i64 a.k, .int .i64 a.n, .string a.s], .agg #[.int .i64 b.k, .int .i64 b.n, .string b.s]] W fun e w' => e = .returned (.int .i64 (cv a b)) ∧ Below W.heap.size W w') := fun W => cvS a b W (by omega) (by omega)
    have hA : Hid (∀ (x : Vl) W, x.s.size ≤ 13 → Calls Try.prog 19 #[.agg #[.int .i64 a.k, .int .i64 a.n, .string a.s], .agg #[.int .i64 x.k, .int .i64 x.n, .string x.s]] W fun e w' => e = .returned (.int .i64 (cv a x)) ∧ Below W.heap.size W w') := fun x W hx => cvI a x W (by omega) (by omega)
    have hB : Hid (∀ (x : Vl) W, x.s.size ≤ 13 → Calls Try.prog 19 #[.agg #[.int .i64 b.k, .int .i64 b.n, .string b.s], .agg #[.int .i64 x.k, .int .i64 x.n, .string x.s]] W fun e w' => e = .returned (.int .i64 (cv b x)) ∧ Below W.heap.size W w') := fun x W hx => cvI b x W (by omega) (by omega)
    have bA := (Blk.new w1 28 #[.int .i64 a.k, .int .i64 a.n, .string a.s]).alloc (.cells #[.int .i64 b.k, .int .i64 b.n, .string b.s] 28)
    have bB := Blk.new (w1.alloc (.cells #[.int .i64 a.k, .int .i64 a.n, .string a.s] 28)) 28 #[.int .i64 b.k, .int .i64 b.n, .string b.s]
    simp only [World.size_alloc] at bB
    have hbA := (hb1.alloc hb1.size (.cells #[.int .i64 a.k, .int .i64 a.n, .string a.s] 28)).alloc (by have := hb1.size; simp; omega) (.cells #[.int .i64 b.k, .int .i64 b.n, .string b.s] 28)
    clear hb1
    have hcase : (cv a b = 2) ∨ (cv a b ≠ 2 ∧ vv a = true ∧ vv b = true ∧ (cv a b = -1 ∨ cv a b = 0 ∨ cv a b = 1)) := by
      by_cases h2 : cv a b = 2
      · exact .inl h2
      · have hv : (vv a && vv b) = true := by
          cases hh : (vv a && vv b)
          · exact absurd (cv_two.2 hh) h2
          · rfl
        rw [Bool.and_eq_true] at hv
        have h3 := ci_rng a b
        rw [cv_ci hv.1 hv.2]
        exact .inr ⟨by omega, hv.1, hv.2, by omega⟩
    rcases hcase with h2 | ⟨hn2, va, vb, h3⟩
    · rw [h2] at hI hS
      clear h2
      go_wp2_with fail
      refine (hI.out _).mono ?_
      rintro e w2 ⟨rfl, hb2⟩
      replace bA := bA.below hb2
      replace bB := bB.below hb2
      replace hbA := bt2 hbA hb2
      clear hb2
      obtain ⟨ca02, ca12, ca22⟩ := blk_cells3 bA
      obtain ⟨cb02, cb12, cb22⟩ := blk_cells3 bB
      go_wp2_with fail
      refine (hS.out _).mono ?_
      rintro e w3 ⟨rfl, hb3⟩
      replace bA := bA.below hb3
      replace bB := bB.below hb3
      replace hbA := bt2 hbA hb3
      clear hb3
      obtain ⟨ca03, ca13, ca23⟩ := blk_cells3 bA
      obtain ⟨cb03, cb13, cb23⟩ := blk_cells3 bB
      go_wp2_with fail
      refine (hS.out _).mono ?_
      rintro e w4 ⟨rfl, hb4⟩
      replace bA := bA.below hb4
      replace bB := bB.below hb4
      replace hbA := bt2 hbA hb4
      clear hb4
      obtain ⟨ca04, ca14, ca24⟩ := blk_cells3 bA
      obtain ⟨cb04, cb14, cb24⟩ := blk_cells3 bB
      go_wp2_with fail
      go_ret
      exact ⟨rfl, hbA⟩
    · have hT : Hid (∀ x : Vl, vv x = true → -1 ≤ cv a x ∧ cv a x ≤ 1 ∧ -1 ≤ cv b x ∧ cv b x ≤ 1 ∧ (cv a b ≤ 0 → cv b x ≤ 0 → cv a x ≤ 0)) := fun x hx => by
        rw [cv_ci va hx, cv_ci vb hx, cv_ci va vb]
        have := ci_rng a x
        have := ci_rng b x
        exact ⟨by omega, by omega, by omega, by omega, fun p q => ci_on p q⟩
      clear hn2 va vb
      obtain ⟨n, hn⟩ : ∃ n, cv a b = n := ⟨_, rfl⟩
      rw [hn] at hI hS hT h3
      clear hn
      have n2 : (n == 2) = false := by rw [beq_eq_false_iff_ne]; omega
      go_wp2_with fail
      refine (hI.out _).mono ?_
      rintro e w2 ⟨rfl, hb2⟩
      replace bA := bA.below hb2
      replace bB := bB.below hb2
      replace hbA := bt2 hbA hb2
      clear hb2
      obtain ⟨ca02, ca12, ca22⟩ := blk_cells3 bA
      obtain ⟨cb02, cb12, cb22⟩ := blk_cells3 bB
      go_wp2_with fail
      refine (hS.out _).mono ?_
      rintro e w3 ⟨rfl, hb3⟩
      replace bA := bA.below hb3
      replace bB := bB.below hb3
      replace hbA := bt2 hbA hb3
      clear hb3
      obtain ⟨ca03, ca13, ca23⟩ := blk_cells3 bA
      obtain ⟨cb03, cb13, cb23⟩ := blk_cells3 bB
      go_wp2_with fail
      clear ca02 ca12 ca22 cb02 cb12 cb22
      have rL := three_rl w3 ((zs.length : Int) % 40 - 20)
      have hok := hide (three_ok (z := (zs.length : Int) % 40 - 20) (by omega) (by omega))
      have hlen : (three ((zs.length : Int) % 40 - 20)).length = 3 := rfl
      generalize three ((zs.length : Int) % 40 - 20) = ls at rL hok hlen
      have bA' := bA.alloc (.cells #[.int .i64 0, .int .i64 0, .string ⟨#[]⟩, .int .i64 1, .int .i64 ((zs.length : Int) % 40 - 20), .string ⟨#[]⟩, .int .i64 2, .int .i64 0, .string ⟨#[98]⟩] 28)
      have bB' := bB.alloc (.cells #[.int .i64 0, .int .i64 0, .string ⟨#[]⟩, .int .i64 1, .int .i64 ((zs.length : Int) % 40 - 20), .string ⟨#[]⟩, .int .i64 2, .int .i64 0, .string ⟨#[98]⟩] 28)
      have hbL := hbA.alloc hbA.size (.cells #[.int .i64 0, .int .i64 0, .string ⟨#[]⟩, .int .i64 1, .int .i64 ((zs.length : Int) % 40 - 20), .string ⟨#[]⟩, .int .i64 2, .int .i64 0, .string ⟨#[98]⟩] 28)
      generalize w3.alloc (.cells #[.int .i64 0, .int .i64 0, .string ⟨#[]⟩, .int .i64 1, .int .i64 ((zs.length : Int) % 40 - 20), .string ⟨#[]⟩, .int .i64 2, .int .i64 0, .string ⟨#[98]⟩] 28) = wL at rL bA' bB' hbL
      have hlen' := hide hlen
      clear bA bB hbA ca03 ca13 ca23 cb03 cb13 cb23 hI hS hlen n2
      go_loopw [7] (fun v wr => ∃ k : Nat, k ≤ 3 ∧ v = .int .i64 k ∧ Below wL.heap.size wL wr) (fun v _ => 3 - (intOf v).toNat)
      case atStart => exact ⟨0, by omega, rfl, Below.refl _ _⟩
      case round =>
        obtain ⟨k, hk, rfl, hb⟩ := hrel
        by_cases hlt : k < 3
        · obtain ⟨b1, off, hA1, c0, c1, c2⟩ := (rL.below hb).val (k := k) (by rw [hlen'.out]; exact hlt)
          obtain ⟨rfl, rfl⟩ : w3.heap.size = b1 ∧ 0 = off := by simpa using hA1
          have hx := hok.out _ (List.getElem_mem (show k < ls.length by rw [hlen'.out]; exact hlt))
          generalize ls[k]'(by rw [hlen'.out]; exact hlt) = x at c0 c1 c2 hx
          obtain ⟨hxv, hxs⟩ := hx
          obtain ⟨t1, t2, t3, t4, t5⟩ := hT.out x hxv
          have qA := hide (fun W => hA.out x W hxs)
          have qB := hide (fun W => hB.out x W hxs)
          generalize cv a x = p at t1 t2 t5 qA
          generalize cv b x = q at t3 t4 t5 qB
          have t5' := hide t5
          clear t5 hA1 hxv
          obtain ⟨ca0, ca1, ca2⟩ := blk_cells3 (bA'.below hb)
          obtain ⟨cb0, cb1, cb2⟩ := blk_cells3 (bB'.below hb)
          simp only [Nat.zero_add] at c0 c1 c2
          have HS := hide (show ∀ w', Below wr.heap.size wr w' → (w'.cell? ⟨w3.heap.size, k * 3, none⟩ = some (.int .i64 x.k) ∧ w'.cell? ⟨w3.heap.size, k * 3 + 1, none⟩ = some (.int .i64 x.n) ∧ w'.cell? ⟨w3.heap.size, k * 3 + 2, none⟩ = some (.string x.s) ∧
              w'.cell? ⟨w1.heap.size, 0, none⟩ = some (.int .i64 a.k) ∧ w'.cell? ⟨w1.heap.size, 1, none⟩ = some (.int .i64 a.n) ∧ w'.cell? ⟨w1.heap.size, 2, none⟩ = some (.string a.s) ∧
              w'.cell? ⟨w1.heap.size + 1, 0, none⟩ = some (.int .i64 b.k) ∧ w'.cell? ⟨w1.heap.size + 1, 1, none⟩ = some (.int .i64 b.n) ∧ w'.cell? ⟨w1.heap.size + 1, 2, none⟩ = some (.string b.s) ∧ Below wr.heap.size wr w') from fun w' h =>
            ⟨cell_on h c0, cell_on h c1, cell_on h c2, cell_on h ca0, cell_on h ca1, cell_on h ca2, cell_on h cb0, cell_on h cb1, cell_on h cb2, h⟩)
          rcases h3 with rfl | rfl | rfl
          · by_cases hq : q ≤ 0
            · have hp := t5'.out (by omega) hq
              have hp' : ¬ (0 < p) := by omega
              clear hT t5'
              have hbx : Below wr.heap.size wr wr.drew := (Below.refl _ _).drew
              go_wp2_with fail
              refine wp_region_noPanic ?_
              refine wp_region_held_drew (S := (fun w' => w'.cell? ⟨w3.heap.size, k * 3, none⟩ = some (.int .i64 x.k) ∧ w'.cell? ⟨w3.heap.size, k * 3 + 1, none⟩ = some (.int .i64 x.n) ∧ w'.cell? ⟨w3.heap.size, k * 3 + 2, none⟩ = some (.string x.s) ∧
    w'.cell? ⟨w1.heap.size, 0, none⟩ = some (.int .i64 a.k) ∧ w'.cell? ⟨w1.heap.size, 1, none⟩ = some (.int .i64 a.n) ∧ w'.cell? ⟨w1.heap.size, 2, none⟩ = some (.string a.s) ∧
    w'.cell? ⟨w1.heap.size + 1, 0, none⟩ = some (.int .i64 b.k) ∧ w'.cell? ⟨w1.heap.size + 1, 1, none⟩ = some (.int .i64 b.n) ∧ w'.cell? ⟨w1.heap.size + 1, 2, none⟩ = some (.string b.s))) (by kernel_rfl) ?_ (fun hHeld => ?_)
              · exact ⟨cell_on hbx c0, cell_on hbx c1, cell_on hbx c2, cell_on hbx ca0, cell_on hbx ca1, cell_on hbx ca2, cell_on hbx cb0, cell_on hbx cb1, cell_on hbx cb2⟩
              refine wpAnyH_take (i := 0) (oi := _) (v := ?_) rfl (by kernel_rfl) (by kernel_rfl) (by kernel_rfl) (fun _ _ _ h => h) (Or.inl ⟨by rfl, ?_⟩) (by assumption) ?_
              rotate_left
              · (intro wS hSw; (try dsimp only at hSw); (try go_split_ands); (simp only [List.getElem_toArray, List.getElem_cons_succ, List.getElem_cons_zero]); go_simp <;> (with_reducible rfl))
              try simp only [List.getElem_toArray, List.getElem_cons_succ, List.getElem_cons_zero, Act.put, List.setIfInBounds_toArray, List.set_cons_zero, List.set_cons_succ]
              refine wpAnyH_take (i := 1) (oi := _) (v := ?_) rfl (by kernel_rfl) (by kernel_rfl) (by kernel_rfl) (fun _ _ _ h => h) (Or.inl ⟨by rfl, ?_⟩) (by assumption) ?_
              rotate_left
              · (intro wS hSw; (try dsimp only at hSw); (try go_split_ands); (simp only [List.getElem_toArray, List.getElem_cons_succ, List.getElem_cons_zero]); go_simp <;> (with_reducible rfl))
              try simp only [List.getElem_toArray, List.getElem_cons_succ, List.getElem_cons_zero, Act.put, List.setIfInBounds_toArray, List.set_cons_zero, List.set_cons_succ]
              refine wpAnyH_take (i := 2) (oi := _) (v := ?_) rfl (by kernel_rfl) (by kernel_rfl) (by kernel_rfl) (fun _ _ _ h => h) (Or.inl ⟨by rfl, ?_⟩) (by assumption) ?_
              rotate_left
              · (intro wS hSw; (try dsimp only at hSw); (try go_split_ands); (simp only [List.getElem_toArray, List.getElem_cons_succ, List.getElem_cons_zero]); go_simp <;> (with_reducible rfl))
              try simp only [List.getElem_toArray, List.getElem_cons_succ, List.getElem_cons_zero, Act.put, List.setIfInBounds_toArray, List.set_cons_zero, List.set_cons_succ]
              refine wpAnyH_take (i := 3) (oi := _) (v := ?_) rfl (by kernel_rfl) (by kernel_rfl) (by kernel_rfl) (fun _ _ _ h => h) (Or.inl ⟨by rfl, ?_⟩) (by assumption) ?_
              rotate_left
              · (intro wS hSw; (try dsimp only at hSw); (try go_split_ands); (simp only [List.getElem_toArray, List.getElem_cons_succ, List.getElem_cons_zero]); go_simp <;> (with_reducible rfl))
              try simp only [List.getElem_toArray, List.getElem_cons_succ, List.getElem_cons_zero, Act.put, List.setIfInBounds_toArray, List.set_cons_zero, List.set_cons_succ]
              refine wpAnyH_take (i := 4) (oi := _) (v := ?_) rfl (by kernel_rfl) (by kernel_rfl) (by kernel_rfl) (fun _ _ _ h => h) (Or.inl ⟨by rfl, ?_⟩) (by assumption) ?_
              rotate_left
              · (intro wS hSw; (try dsimp only at hSw); (try go_split_ands); (simp only [List.getElem_toArray, List.getElem_cons_succ, List.getElem_cons_zero]); go_simp <;> (with_reducible rfl))
              try simp only [List.getElem_toArray, List.getElem_cons_succ, List.getElem_cons_zero, Act.put, List.setIfInBounds_toArray, List.set_cons_zero, List.set_cons_succ]
              refine wpAnyH_take (i := 5) (oi := _) (v := ?_) rfl (by kernel_rfl) (by kernel_rfl) (by kernel_rfl) (fun _ _ _ h => h) (Or.inl ⟨by rfl, ?_⟩) (by assumption) ?_
              rotate_left
              · (intro wS hSw; (try dsimp only at hSw); (try go_split_ands); (simp only [List.getElem_toArray, List.getElem_cons_succ, List.getElem_cons_zero]); go_simp <;> (with_reducible rfl))
              try simp only [List.getElem_toArray, List.getElem_cons_succ, List.getElem_cons_zero, Act.put, List.setIfInBounds_toArray, List.set_cons_zero, List.set_cons_succ]
              refine wpAnyH_take (i := 6) (oi := _) (v := ?_) rfl (by kernel_rfl) (by kernel_rfl) (by kernel_rfl) (fun _ _ _ h => h) (Or.inl ⟨by rfl, ?_⟩) (by assumption) ?_
              rotate_left
              · (intro wS hSw; (try dsimp only at hSw); (try go_split_ands); (simp only [List.getElem_toArray, List.getElem_cons_succ, List.getElem_cons_zero]); go_simp <;> (with_reducible rfl))
              try simp only [List.getElem_toArray, List.getElem_cons_succ, List.getElem_cons_zero, Act.put, List.setIfInBounds_toArray, List.set_cons_zero, List.set_cons_succ]
              refine wpAnyH_take (i := 7) (oi := _) (v := ?_) rfl (by kernel_rfl) (by kernel_rfl) (by kernel_rfl) (fun _ _ _ h => h) (Or.inl ⟨by rfl, ?_⟩) (by assumption) ?_
              rotate_left
              · (intro wS hSw; (try dsimp only at hSw); (try go_split_ands); (simp only [List.getElem_toArray, List.getElem_cons_succ, List.getElem_cons_zero]); go_simp <;> (with_reducible rfl))
              try simp only [List.getElem_toArray, List.getElem_cons_succ, List.getElem_cons_zero, Act.put, List.setIfInBounds_toArray, List.set_cons_zero, List.set_cons_succ]
              refine wpAnyH_ready (rs := [8]) (by kernel_rfl) (by simp) (AllReadyH.cons (o := _) rfl (fun K hK => ?_) AllReadyH.nil)
              simp only [List.getElem_toArray, List.getElem_cons_succ, List.getElem_cons_zero]
              go_simp
              (go_at_call 19; refine (qB.out _).mono ?_; rintro e w' ⟨rfl, hb3⟩; replace hbx := bt2 hbx hb3)
              refine hK.out _ _ ?_ (fun hHeld => ?_)
              · exact ⟨cell_on hbx c0, cell_on hbx c1, cell_on hbx c2, cell_on hbx ca0, cell_on hbx ca1, cell_on hbx ca2, cell_on hbx cb0, cell_on hbx cb1, cell_on hbx cb2⟩
              clear hK K hb3
              try simp only [List.getElem_toArray, List.getElem_cons_succ, List.getElem_cons_zero, Act.put, List.setIfInBounds_toArray, List.set_cons_zero, List.set_cons_succ]
              refine wpAnyH_take (i := 9) (oi := _) (v := ?_) rfl (by kernel_rfl) (by kernel_rfl) (by kernel_rfl) (fun _ _ _ h => h) (Or.inl ⟨by rfl, ?_⟩) (by assumption) ?_
              rotate_left
              · (intro wS hSw; (try dsimp only at hSw); (try go_split_ands); (simp only [List.getElem_toArray, List.getElem_cons_succ, List.getElem_cons_zero]); go_simp <;> (with_reducible rfl))
              try simp only [List.getElem_toArray, List.getElem_cons_succ, List.getElem_cons_zero, Act.put, List.setIfInBounds_toArray, List.set_cons_zero, List.set_cons_succ]
              refine wpAnyH_take (i := 10) (oi := _) (v := ?_) rfl (by kernel_rfl) (by kernel_rfl) (by kernel_rfl) (fun _ _ _ h => h) (Or.inl ⟨by rfl, ?_⟩) (by assumption) ?_
              rotate_left
              · (intro wS hSw; (try dsimp only at hSw); (try go_split_ands); (simp only [List.getElem_toArray, List.getElem_cons_succ, List.getElem_cons_zero]); go_simp <;> (with_reducible rfl))
              try simp only [List.getElem_toArray, List.getElem_cons_succ, List.getElem_cons_zero, Act.put, List.setIfInBounds_toArray, List.set_cons_zero, List.set_cons_succ]
              refine wpAnyH_take (i := 11) (oi := _) (v := ?_) rfl (by kernel_rfl) (by kernel_rfl) (by kernel_rfl) (fun _ _ _ h => h) (Or.inl ⟨by rfl, ?_⟩) (by assumption) ?_
              rotate_left
              · (intro wS hSw; (try dsimp only at hSw); (try go_split_ands); (simp only [List.getElem_toArray, List.getElem_cons_succ, List.getElem_cons_zero]); go_simp <;> (with_reducible rfl))
              try simp only [List.getElem_toArray, List.getElem_cons_succ, List.getElem_cons_zero, Act.put, List.setIfInBounds_toArray, List.set_cons_zero, List.set_cons_succ]
              refine wpAnyH_take (i := 12) (oi := _) (v := ?_) rfl (by kernel_rfl) (by kernel_rfl) (by kernel_rfl) (fun _ _ _ h => h) (Or.inl ⟨by rfl, ?_⟩) (by assumption) ?_
              rotate_left
              · (intro wS hSw; (try dsimp only at hSw); (try go_split_ands); (simp only [List.getElem_toArray, List.getElem_cons_succ, List.getElem_cons_zero]); go_simp <;> (with_reducible rfl))
              try simp only [List.getElem_toArray, List.getElem_cons_succ, List.getElem_cons_zero, Act.put, List.setIfInBounds_toArray, List.set_cons_zero, List.set_cons_succ]
              refine wpAnyH_take (i := 13) (oi := _) (v := ?_) rfl (by kernel_rfl) (by kernel_rfl) (by kernel_rfl) (fun _ _ _ h => h) (Or.inl ⟨by rfl, ?_⟩) (by assumption) ?_
              rotate_left
              · (intro wS hSw; (try dsimp only at hSw); (try go_split_ands); (simp only [List.getElem_toArray, List.getElem_cons_succ, List.getElem_cons_zero]); go_simp <;> (with_reducible rfl))
              try simp only [List.getElem_toArray, List.getElem_cons_succ, List.getElem_cons_zero, Act.put, List.setIfInBounds_toArray, List.set_cons_zero, List.set_cons_succ]
              refine wpAnyH_take (i := 14) (oi := _) (v := ?_) rfl (by kernel_rfl) (by kernel_rfl) (by kernel_rfl) (fun _ _ _ h => h) (Or.inl ⟨by rfl, ?_⟩) (by assumption) ?_
              rotate_left
              · (intro wS hSw; (try dsimp only at hSw); (try go_split_ands); (simp only [List.getElem_toArray, List.getElem_cons_succ, List.getElem_cons_zero]); go_simp <;> (with_reducible rfl))
              try simp only [List.getElem_toArray, List.getElem_cons_succ, List.getElem_cons_zero, Act.put, List.setIfInBounds_toArray, List.set_cons_zero, List.set_cons_succ]
              refine wpAnyH_take (i := 15) (oi := _) (v := ?_) rfl (by kernel_rfl) (by kernel_rfl) (by kernel_rfl) (fun _ _ _ h => h) (Or.inl ⟨by rfl, ?_⟩) (by assumption) ?_
              rotate_left
              · (intro wS hSw; (try dsimp only at hSw); (try go_split_ands); (simp only [List.getElem_toArray, List.getElem_cons_succ, List.getElem_cons_zero]); go_simp <;> (with_reducible rfl))
              try simp only [List.getElem_toArray, List.getElem_cons_succ, List.getElem_cons_zero, Act.put, List.setIfInBounds_toArray, List.set_cons_zero, List.set_cons_succ]
              refine wpAnyH_take (i := 16) (oi := _) (v := ?_) rfl (by kernel_rfl) (by kernel_rfl) (by kernel_rfl) (fun _ _ _ h => h) (Or.inl ⟨by rfl, ?_⟩) (by assumption) ?_
              rotate_left
              · (intro wS hSw; (try dsimp only at hSw); (try go_split_ands); (simp only [List.getElem_toArray, List.getElem_cons_succ, List.getElem_cons_zero]); go_simp <;> (with_reducible rfl))
              try simp only [List.getElem_toArray, List.getElem_cons_succ, List.getElem_cons_zero, Act.put, List.setIfInBounds_toArray, List.set_cons_zero, List.set_cons_succ]
              refine wpAnyH_ready (rs := [17]) (by kernel_rfl) (by simp) (AllReadyH.cons (o := _) rfl (fun K hK => ?_) AllReadyH.nil)
              simp only [List.getElem_toArray, List.getElem_cons_succ, List.getElem_cons_zero]
              go_simp
              (go_at_call 19; refine (qA.out _).mono ?_; rintro e w' ⟨rfl, hb3⟩; replace hbx := bt2 hbx hb3)
              refine hK.out _ _ ?_ (fun hHeld => ?_)
              · exact ⟨cell_on hbx c0, cell_on hbx c1, cell_on hbx c2, cell_on hbx ca0, cell_on hbx ca1, cell_on hbx ca2, cell_on hbx cb0, cell_on hbx cb1, cell_on hbx cb2⟩
              clear hK K hb3
              try simp only [List.getElem_toArray, List.getElem_cons_succ, List.getElem_cons_zero, Act.put, List.setIfInBounds_toArray, List.set_cons_zero, List.set_cons_succ]
              refine wpAnyH_take (i := 18) (oi := _) (v := ?_) rfl (by kernel_rfl) (by kernel_rfl) (by kernel_rfl) (fun _ _ _ h => h) (Or.inl ⟨by rfl, ?_⟩) (by assumption) ?_
              rotate_left
              · (intro wS hSw; (try dsimp only at hSw); (try go_split_ands); (simp only [List.getElem_toArray, List.getElem_cons_succ, List.getElem_cons_zero]); go_simp <;> (with_reducible rfl))
              try simp only [List.getElem_toArray, List.getElem_cons_succ, List.getElem_cons_zero, Act.put, List.setIfInBounds_toArray, List.set_cons_zero, List.set_cons_succ]
              refine wpAnyH_take (i := 19) (oi := _) (v := ?_) rfl (by kernel_rfl) (by kernel_rfl) (by kernel_rfl) (fun _ _ _ h => h) (Or.inl ⟨by rfl, ?_⟩) (by assumption) ?_
              rotate_left
              · (intro wS hSw; (try dsimp only at hSw); (try go_split_ands); (simp only [List.getElem_toArray, List.getElem_cons_succ, List.getElem_cons_zero]); go_simp <;> (with_reducible rfl))
              try simp only [List.getElem_toArray, List.getElem_cons_succ, List.getElem_cons_zero, Act.put, List.setIfInBounds_toArray, List.set_cons_zero, List.set_cons_succ]
              refine wpAnyH_done (by kernel_rfl) ?_ _
              refine NoPanic.normal ?_
              clear hHeld
              go_wp2_with fail
              go_roundw
              case rel => exact ⟨k + 1, by omega, by go_num, bt hb hbx hb.size⟩
              case measure => simp [intOf]; omega
            · obtain rfl : q = 1 := by omega
              clear hT t5' hq
              have hbx : Below wr.heap.size wr wr.drew := (Below.refl _ _).drew
              go_wp2_with fail
              refine wp_region_noPanic ?_
              refine wp_region_held_drew (S := (fun w' => w'.cell? ⟨w3.heap.size, k * 3, none⟩ = some (.int .i64 x.k) ∧ w'.cell? ⟨w3.heap.size, k * 3 + 1, none⟩ = some (.int .i64 x.n) ∧ w'.cell? ⟨w3.heap.size, k * 3 + 2, none⟩ = some (.string x.s) ∧
    w'.cell? ⟨w1.heap.size, 0, none⟩ = some (.int .i64 a.k) ∧ w'.cell? ⟨w1.heap.size, 1, none⟩ = some (.int .i64 a.n) ∧ w'.cell? ⟨w1.heap.size, 2, none⟩ = some (.string a.s) ∧
    w'.cell? ⟨w1.heap.size + 1, 0, none⟩ = some (.int .i64 b.k) ∧ w'.cell? ⟨w1.heap.size + 1, 1, none⟩ = some (.int .i64 b.n) ∧ w'.cell? ⟨w1.heap.size + 1, 2, none⟩ = some (.string b.s))) (by kernel_rfl) ?_ (fun hHeld => ?_)
              · exact ⟨cell_on hbx c0, cell_on hbx c1, cell_on hbx c2, cell_on hbx ca0, cell_on hbx ca1, cell_on hbx ca2, cell_on hbx cb0, cell_on hbx cb1, cell_on hbx cb2⟩
              refine wpAnyH_take (i := 0) (oi := _) (v := ?_) rfl (by kernel_rfl) (by kernel_rfl) (by kernel_rfl) (fun _ _ _ h => h) (Or.inl ⟨by rfl, ?_⟩) (by assumption) ?_
              rotate_left
              · (intro wS hSw; (try dsimp only at hSw); (try go_split_ands); (simp only [List.getElem_toArray, List.getElem_cons_succ, List.getElem_cons_zero]); go_simp <;> (with_reducible rfl))
              try simp only [List.getElem_toArray, List.getElem_cons_succ, List.getElem_cons_zero, Act.put, List.setIfInBounds_toArray, List.set_cons_zero, List.set_cons_succ]
              refine wpAnyH_take (i := 1) (oi := _) (v := ?_) rfl (by kernel_rfl) (by kernel_rfl) (by kernel_rfl) (fun _ _ _ h => h) (Or.inl ⟨by rfl, ?_⟩) (by assumption) ?_
              rotate_left
              · (intro wS hSw; (try dsimp only at hSw); (try go_split_ands); (simp only [List.getElem_toArray, List.getElem_cons_succ, List.getElem_cons_zero]); go_simp <;> (with_reducible rfl))
              try simp only [List.getElem_toArray, List.getElem_cons_succ, List.getElem_cons_zero, Act.put, List.setIfInBounds_toArray, List.set_cons_zero, List.set_cons_succ]
              refine wpAnyH_take (i := 2) (oi := _) (v := ?_) rfl (by kernel_rfl) (by kernel_rfl) (by kernel_rfl) (fun _ _ _ h => h) (Or.inl ⟨by rfl, ?_⟩) (by assumption) ?_
              rotate_left
              · (intro wS hSw; (try dsimp only at hSw); (try go_split_ands); (simp only [List.getElem_toArray, List.getElem_cons_succ, List.getElem_cons_zero]); go_simp <;> (with_reducible rfl))
              try simp only [List.getElem_toArray, List.getElem_cons_succ, List.getElem_cons_zero, Act.put, List.setIfInBounds_toArray, List.set_cons_zero, List.set_cons_succ]
              refine wpAnyH_take (i := 3) (oi := _) (v := ?_) rfl (by kernel_rfl) (by kernel_rfl) (by kernel_rfl) (fun _ _ _ h => h) (Or.inl ⟨by rfl, ?_⟩) (by assumption) ?_
              rotate_left
              · (intro wS hSw; (try dsimp only at hSw); (try go_split_ands); (simp only [List.getElem_toArray, List.getElem_cons_succ, List.getElem_cons_zero]); go_simp <;> (with_reducible rfl))
              try simp only [List.getElem_toArray, List.getElem_cons_succ, List.getElem_cons_zero, Act.put, List.setIfInBounds_toArray, List.set_cons_zero, List.set_cons_succ]
              refine wpAnyH_take (i := 4) (oi := _) (v := ?_) rfl (by kernel_rfl) (by kernel_rfl) (by kernel_rfl) (fun _ _ _ h => h) (Or.inl ⟨by rfl, ?_⟩) (by assumption) ?_
              rotate_left
              · (intro wS hSw; (try dsimp only at hSw); (try go_split_ands); (simp only [List.getElem_toArray, List.getElem_cons_succ, List.getElem_cons_zero]); go_simp <;> (with_reducible rfl))
              try simp only [List.getElem_toArray, List.getElem_cons_succ, List.getElem_cons_zero, Act.put, List.setIfInBounds_toArray, List.set_cons_zero, List.set_cons_succ]
              refine wpAnyH_take (i := 5) (oi := _) (v := ?_) rfl (by kernel_rfl) (by kernel_rfl) (by kernel_rfl) (fun _ _ _ h => h) (Or.inl ⟨by rfl, ?_⟩) (by assumption) ?_
              rotate_left
              · (intro wS hSw; (try dsimp only at hSw); (try go_split_ands); (simp only [List.getElem_toArray, List.getElem_cons_succ, List.getElem_cons_zero]); go_simp <;> (with_reducible rfl))
              try simp only [List.getElem_toArray, List.getElem_cons_succ, List.getElem_cons_zero, Act.put, List.setIfInBounds_toArray, List.set_cons_zero, List.set_cons_succ]
              refine wpAnyH_take (i := 6) (oi := _) (v := ?_) rfl (by kernel_rfl) (by kernel_rfl) (by kernel_rfl) (fun _ _ _ h => h) (Or.inl ⟨by rfl, ?_⟩) (by assumption) ?_
              rotate_left
              · (intro wS hSw; (try dsimp only at hSw); (try go_split_ands); (simp only [List.getElem_toArray, List.getElem_cons_succ, List.getElem_cons_zero]); go_simp <;> (with_reducible rfl))
              try simp only [List.getElem_toArray, List.getElem_cons_succ, List.getElem_cons_zero, Act.put, List.setIfInBounds_toArray, List.set_cons_zero, List.set_cons_succ]
              refine wpAnyH_take (i := 7) (oi := _) (v := ?_) rfl (by kernel_rfl) (by kernel_rfl) (by kernel_rfl) (fun _ _ _ h => h) (Or.inl ⟨by rfl, ?_⟩) (by assumption) ?_
              rotate_left
              · (intro wS hSw; (try dsimp only at hSw); (try go_split_ands); (simp only [List.getElem_toArray, List.getElem_cons_succ, List.getElem_cons_zero]); go_simp <;> (with_reducible rfl))
              try simp only [List.getElem_toArray, List.getElem_cons_succ, List.getElem_cons_zero, Act.put, List.setIfInBounds_toArray, List.set_cons_zero, List.set_cons_succ]
              refine wpAnyH_ready (rs := [8]) (by kernel_rfl) (by simp) (AllReadyH.cons (o := _) rfl (fun K hK => ?_) AllReadyH.nil)
              simp only [List.getElem_toArray, List.getElem_cons_succ, List.getElem_cons_zero]
              go_simp
              (go_at_call 19; refine (qB.out _).mono ?_; rintro e w' ⟨rfl, hb3⟩; replace hbx := bt2 hbx hb3)
              refine hK.out _ _ ?_ (fun hHeld => ?_)
              · exact ⟨cell_on hbx c0, cell_on hbx c1, cell_on hbx c2, cell_on hbx ca0, cell_on hbx ca1, cell_on hbx ca2, cell_on hbx cb0, cell_on hbx cb1, cell_on hbx cb2⟩
              clear hK K hb3
              try simp only [List.getElem_toArray, List.getElem_cons_succ, List.getElem_cons_zero, Act.put, List.setIfInBounds_toArray, List.set_cons_zero, List.set_cons_succ]
              refine wpAnyH_take (i := 9) (oi := _) (v := ?_) rfl (by kernel_rfl) (by kernel_rfl) (by kernel_rfl) (fun _ _ _ h => h) (Or.inl ⟨by rfl, ?_⟩) (by assumption) ?_
              rotate_left
              · (intro wS hSw; (try dsimp only at hSw); (try go_split_ands); (simp only [List.getElem_toArray, List.getElem_cons_succ, List.getElem_cons_zero]); go_simp <;> (with_reducible rfl))
              try simp only [List.getElem_toArray, List.getElem_cons_succ, List.getElem_cons_zero, Act.put, List.setIfInBounds_toArray, List.set_cons_zero, List.set_cons_succ]
              refine wpAnyH_take (i := 10) (oi := _) (v := ?_) rfl (by kernel_rfl) (by kernel_rfl) (by kernel_rfl) (fun _ _ _ h => h) (Or.inl ⟨by rfl, ?_⟩) (by assumption) ?_
              rotate_left
              · (intro wS hSw; (try dsimp only at hSw); (try go_split_ands); (simp only [List.getElem_toArray, List.getElem_cons_succ, List.getElem_cons_zero]); go_simp <;> (with_reducible rfl))
              try simp only [List.getElem_toArray, List.getElem_cons_succ, List.getElem_cons_zero, Act.put, List.setIfInBounds_toArray, List.set_cons_zero, List.set_cons_succ]
              refine wpAnyH_take (i := 11) (oi := _) (v := ?_) rfl (by kernel_rfl) (by kernel_rfl) (by kernel_rfl) (fun _ _ _ h => h) (Or.inl ⟨by rfl, ?_⟩) (by assumption) ?_
              rotate_left
              · (intro wS hSw; (try dsimp only at hSw); (try go_split_ands); (simp only [List.getElem_toArray, List.getElem_cons_succ, List.getElem_cons_zero]); go_simp <;> (with_reducible rfl))
              try simp only [List.getElem_toArray, List.getElem_cons_succ, List.getElem_cons_zero, Act.put, List.setIfInBounds_toArray, List.set_cons_zero, List.set_cons_succ]
              refine wpAnyH_take (i := 12) (oi := _) (v := undef) rfl (by kernel_rfl) (by kernel_rfl) (by kernel_rfl) (fun _ _ _ h => h) (Or.inr ⟨by rfl, rfl⟩) (by assumption) ?_
              try simp only [List.getElem_toArray, List.getElem_cons_succ, List.getElem_cons_zero, Act.put, List.setIfInBounds_toArray, List.set_cons_zero, List.set_cons_succ]
              refine wpAnyH_take (i := 13) (oi := _) (v := undef) rfl (by kernel_rfl) (by kernel_rfl) (by kernel_rfl) (fun _ _ _ h => h) (Or.inr ⟨by rfl, rfl⟩) (by assumption) ?_
              try simp only [List.getElem_toArray, List.getElem_cons_succ, List.getElem_cons_zero, Act.put, List.setIfInBounds_toArray, List.set_cons_zero, List.set_cons_succ]
              refine wpAnyH_take (i := 14) (oi := _) (v := undef) rfl (by kernel_rfl) (by kernel_rfl) (by kernel_rfl) (fun _ _ _ h => h) (Or.inr ⟨by rfl, rfl⟩) (by assumption) ?_
              try simp only [List.getElem_toArray, List.getElem_cons_succ, List.getElem_cons_zero, Act.put, List.setIfInBounds_toArray, List.set_cons_zero, List.set_cons_succ]
              refine wpAnyH_take (i := 15) (oi := _) (v := undef) rfl (by kernel_rfl) (by kernel_rfl) (by kernel_rfl) (fun _ _ _ h => h) (Or.inr ⟨by rfl, rfl⟩) (by assumption) ?_
              try simp only [List.getElem_toArray, List.getElem_cons_succ, List.getElem_cons_zero, Act.put, List.setIfInBounds_toArray, List.set_cons_zero, List.set_cons_succ]
              refine wpAnyH_take (i := 16) (oi := _) (v := undef) rfl (by kernel_rfl) (by kernel_rfl) (by kernel_rfl) (fun _ _ _ h => h) (Or.inr ⟨by rfl, rfl⟩) (by assumption) ?_
              try simp only [List.getElem_toArray, List.getElem_cons_succ, List.getElem_cons_zero, Act.put, List.setIfInBounds_toArray, List.set_cons_zero, List.set_cons_succ]
              refine wpAnyH_take (i := 17) (oi := _) (v := undef) rfl (by kernel_rfl) (by kernel_rfl) (by kernel_rfl) (fun _ _ _ h => h) (Or.inr ⟨by rfl, rfl⟩) (by assumption) ?_
              try simp only [List.getElem_toArray, List.getElem_cons_succ, List.getElem_cons_zero, Act.put, List.setIfInBounds_toArray, List.set_cons_zero, List.set_cons_succ]
              refine wpAnyH_take (i := 18) (oi := _) (v := undef) rfl (by kernel_rfl) (by kernel_rfl) (by kernel_rfl) (fun _ _ _ h => h) (Or.inr ⟨by rfl, rfl⟩) (by assumption) ?_
              try simp only [List.getElem_toArray, List.getElem_cons_succ, List.getElem_cons_zero, Act.put, List.setIfInBounds_toArray, List.set_cons_zero, List.set_cons_succ]
              refine wpAnyH_take (i := 19) (oi := _) (v := ?_) rfl (by kernel_rfl) (by kernel_rfl) (by kernel_rfl) (fun _ _ _ h => h) (Or.inl ⟨by rfl, ?_⟩) (by assumption) ?_
              rotate_left
              · (intro wS hSw; (try dsimp only at hSw); (try go_split_ands); (simp only [List.getElem_toArray, List.getElem_cons_succ, List.getElem_cons_zero]); go_simp <;> (with_reducible rfl))
              try simp only [List.getElem_toArray, List.getElem_cons_succ, List.getElem_cons_zero, Act.put, List.setIfInBounds_toArray, List.set_cons_zero, List.set_cons_succ]
              refine wpAnyH_done (by kernel_rfl) ?_ _
              refine NoPanic.normal ?_
              clear hHeld
              go_wp2_with fail
              go_roundw
              case rel => exact ⟨k + 1, by omega, by go_num, bt hb hbx hb.size⟩
              case measure => simp [intOf]; omega
          · by_cases hq : q ≤ 0
            · have hp := t5'.out (by omega) hq
              have hp' : ¬ (0 < p) := by omega
              clear hT t5'
              have hbx : Below wr.heap.size wr wr.drew := (Below.refl _ _).drew
              go_wp2_with fail
              refine wp_region_noPanic ?_
              refine wp_region_held_drew (S := (fun w' => w'.cell? ⟨w3.heap.size, k * 3, none⟩ = some (.int .i64 x.k) ∧ w'.cell? ⟨w3.heap.size, k * 3 + 1, none⟩ = some (.int .i64 x.n) ∧ w'.cell? ⟨w3.heap.size, k * 3 + 2, none⟩ = some (.string x.s) ∧
    w'.cell? ⟨w1.heap.size, 0, none⟩ = some (.int .i64 a.k) ∧ w'.cell? ⟨w1.heap.size, 1, none⟩ = some (.int .i64 a.n) ∧ w'.cell? ⟨w1.heap.size, 2, none⟩ = some (.string a.s) ∧
    w'.cell? ⟨w1.heap.size + 1, 0, none⟩ = some (.int .i64 b.k) ∧ w'.cell? ⟨w1.heap.size + 1, 1, none⟩ = some (.int .i64 b.n) ∧ w'.cell? ⟨w1.heap.size + 1, 2, none⟩ = some (.string b.s))) (by kernel_rfl) ?_ (fun hHeld => ?_)
              · exact ⟨cell_on hbx c0, cell_on hbx c1, cell_on hbx c2, cell_on hbx ca0, cell_on hbx ca1, cell_on hbx ca2, cell_on hbx cb0, cell_on hbx cb1, cell_on hbx cb2⟩
              refine wpAnyH_take (i := 0) (oi := _) (v := ?_) rfl (by kernel_rfl) (by kernel_rfl) (by kernel_rfl) (fun _ _ _ h => h) (Or.inl ⟨by rfl, ?_⟩) (by assumption) ?_
              rotate_left
              · (intro wS hSw; (try dsimp only at hSw); (try go_split_ands); (simp only [List.getElem_toArray, List.getElem_cons_succ, List.getElem_cons_zero]); go_simp <;> (with_reducible rfl))
              try simp only [List.getElem_toArray, List.getElem_cons_succ, List.getElem_cons_zero, Act.put, List.setIfInBounds_toArray, List.set_cons_zero, List.set_cons_succ]
              refine wpAnyH_take (i := 1) (oi := _) (v := ?_) rfl (by kernel_rfl) (by kernel_rfl) (by kernel_rfl) (fun _ _ _ h => h) (Or.inl ⟨by rfl, ?_⟩) (by assumption) ?_
              rotate_left
              · (intro wS hSw; (try dsimp only at hSw); (try go_split_ands); (simp only [List.getElem_toArray, List.getElem_cons_succ, List.getElem_cons_zero]); go_simp <;> (with_reducible rfl))
              try simp only [List.getElem_toArray, List.getElem_cons_succ, List.getElem_cons_zero, Act.put, List.setIfInBounds_toArray, List.set_cons_zero, List.set_cons_succ]
              refine wpAnyH_take (i := 2) (oi := _) (v := ?_) rfl (by kernel_rfl) (by kernel_rfl) (by kernel_rfl) (fun _ _ _ h => h) (Or.inl ⟨by rfl, ?_⟩) (by assumption) ?_
              rotate_left
              · (intro wS hSw; (try dsimp only at hSw); (try go_split_ands); (simp only [List.getElem_toArray, List.getElem_cons_succ, List.getElem_cons_zero]); go_simp <;> (with_reducible rfl))
              try simp only [List.getElem_toArray, List.getElem_cons_succ, List.getElem_cons_zero, Act.put, List.setIfInBounds_toArray, List.set_cons_zero, List.set_cons_succ]
              refine wpAnyH_take (i := 3) (oi := _) (v := ?_) rfl (by kernel_rfl) (by kernel_rfl) (by kernel_rfl) (fun _ _ _ h => h) (Or.inl ⟨by rfl, ?_⟩) (by assumption) ?_
              rotate_left
              · (intro wS hSw; (try dsimp only at hSw); (try go_split_ands); (simp only [List.getElem_toArray, List.getElem_cons_succ, List.getElem_cons_zero]); go_simp <;> (with_reducible rfl))
              try simp only [List.getElem_toArray, List.getElem_cons_succ, List.getElem_cons_zero, Act.put, List.setIfInBounds_toArray, List.set_cons_zero, List.set_cons_succ]
              refine wpAnyH_take (i := 4) (oi := _) (v := ?_) rfl (by kernel_rfl) (by kernel_rfl) (by kernel_rfl) (fun _ _ _ h => h) (Or.inl ⟨by rfl, ?_⟩) (by assumption) ?_
              rotate_left
              · (intro wS hSw; (try dsimp only at hSw); (try go_split_ands); (simp only [List.getElem_toArray, List.getElem_cons_succ, List.getElem_cons_zero]); go_simp <;> (with_reducible rfl))
              try simp only [List.getElem_toArray, List.getElem_cons_succ, List.getElem_cons_zero, Act.put, List.setIfInBounds_toArray, List.set_cons_zero, List.set_cons_succ]
              refine wpAnyH_take (i := 5) (oi := _) (v := ?_) rfl (by kernel_rfl) (by kernel_rfl) (by kernel_rfl) (fun _ _ _ h => h) (Or.inl ⟨by rfl, ?_⟩) (by assumption) ?_
              rotate_left
              · (intro wS hSw; (try dsimp only at hSw); (try go_split_ands); (simp only [List.getElem_toArray, List.getElem_cons_succ, List.getElem_cons_zero]); go_simp <;> (with_reducible rfl))
              try simp only [List.getElem_toArray, List.getElem_cons_succ, List.getElem_cons_zero, Act.put, List.setIfInBounds_toArray, List.set_cons_zero, List.set_cons_succ]
              refine wpAnyH_take (i := 6) (oi := _) (v := ?_) rfl (by kernel_rfl) (by kernel_rfl) (by kernel_rfl) (fun _ _ _ h => h) (Or.inl ⟨by rfl, ?_⟩) (by assumption) ?_
              rotate_left
              · (intro wS hSw; (try dsimp only at hSw); (try go_split_ands); (simp only [List.getElem_toArray, List.getElem_cons_succ, List.getElem_cons_zero]); go_simp <;> (with_reducible rfl))
              try simp only [List.getElem_toArray, List.getElem_cons_succ, List.getElem_cons_zero, Act.put, List.setIfInBounds_toArray, List.set_cons_zero, List.set_cons_succ]
              refine wpAnyH_take (i := 7) (oi := _) (v := ?_) rfl (by kernel_rfl) (by kernel_rfl) (by kernel_rfl) (fun _ _ _ h => h) (Or.inl ⟨by rfl, ?_⟩) (by assumption) ?_
              rotate_left
              · (intro wS hSw; (try dsimp only at hSw); (try go_split_ands); (simp only [List.getElem_toArray, List.getElem_cons_succ, List.getElem_cons_zero]); go_simp <;> (with_reducible rfl))
              try simp only [List.getElem_toArray, List.getElem_cons_succ, List.getElem_cons_zero, Act.put, List.setIfInBounds_toArray, List.set_cons_zero, List.set_cons_succ]
              refine wpAnyH_ready (rs := [8]) (by kernel_rfl) (by simp) (AllReadyH.cons (o := _) rfl (fun K hK => ?_) AllReadyH.nil)
              simp only [List.getElem_toArray, List.getElem_cons_succ, List.getElem_cons_zero]
              go_simp
              (go_at_call 19; refine (qB.out _).mono ?_; rintro e w' ⟨rfl, hb3⟩; replace hbx := bt2 hbx hb3)
              refine hK.out _ _ ?_ (fun hHeld => ?_)
              · exact ⟨cell_on hbx c0, cell_on hbx c1, cell_on hbx c2, cell_on hbx ca0, cell_on hbx ca1, cell_on hbx ca2, cell_on hbx cb0, cell_on hbx cb1, cell_on hbx cb2⟩
              clear hK K hb3
              try simp only [List.getElem_toArray, List.getElem_cons_succ, List.getElem_cons_zero, Act.put, List.setIfInBounds_toArray, List.set_cons_zero, List.set_cons_succ]
              refine wpAnyH_take (i := 9) (oi := _) (v := ?_) rfl (by kernel_rfl) (by kernel_rfl) (by kernel_rfl) (fun _ _ _ h => h) (Or.inl ⟨by rfl, ?_⟩) (by assumption) ?_
              rotate_left
              · (intro wS hSw; (try dsimp only at hSw); (try go_split_ands); (simp only [List.getElem_toArray, List.getElem_cons_succ, List.getElem_cons_zero]); go_simp <;> (with_reducible rfl))
              try simp only [List.getElem_toArray, List.getElem_cons_succ, List.getElem_cons_zero, Act.put, List.setIfInBounds_toArray, List.set_cons_zero, List.set_cons_succ]
              refine wpAnyH_take (i := 10) (oi := _) (v := ?_) rfl (by kernel_rfl) (by kernel_rfl) (by kernel_rfl) (fun _ _ _ h => h) (Or.inl ⟨by rfl, ?_⟩) (by assumption) ?_
              rotate_left
              · (intro wS hSw; (try dsimp only at hSw); (try go_split_ands); (simp only [List.getElem_toArray, List.getElem_cons_succ, List.getElem_cons_zero]); go_simp <;> (with_reducible rfl))
              try simp only [List.getElem_toArray, List.getElem_cons_succ, List.getElem_cons_zero, Act.put, List.setIfInBounds_toArray, List.set_cons_zero, List.set_cons_succ]
              refine wpAnyH_take (i := 11) (oi := _) (v := ?_) rfl (by kernel_rfl) (by kernel_rfl) (by kernel_rfl) (fun _ _ _ h => h) (Or.inl ⟨by rfl, ?_⟩) (by assumption) ?_
              rotate_left
              · (intro wS hSw; (try dsimp only at hSw); (try go_split_ands); (simp only [List.getElem_toArray, List.getElem_cons_succ, List.getElem_cons_zero]); go_simp <;> (with_reducible rfl))
              try simp only [List.getElem_toArray, List.getElem_cons_succ, List.getElem_cons_zero, Act.put, List.setIfInBounds_toArray, List.set_cons_zero, List.set_cons_succ]
              refine wpAnyH_take (i := 12) (oi := _) (v := ?_) rfl (by kernel_rfl) (by kernel_rfl) (by kernel_rfl) (fun _ _ _ h => h) (Or.inl ⟨by rfl, ?_⟩) (by assumption) ?_
              rotate_left
              · (intro wS hSw; (try dsimp only at hSw); (try go_split_ands); (simp only [List.getElem_toArray, List.getElem_cons_succ, List.getElem_cons_zero]); go_simp <;> (with_reducible rfl))
              try simp only [List.getElem_toArray, List.getElem_cons_succ, List.getElem_cons_zero, Act.put, List.setIfInBounds_toArray, List.set_cons_zero, List.set_cons_succ]
              refine wpAnyH_take (i := 13) (oi := _) (v := ?_) rfl (by kernel_rfl) (by kernel_rfl) (by kernel_rfl) (fun _ _ _ h => h) (Or.inl ⟨by rfl, ?_⟩) (by assumption) ?_
              rotate_left
              · (intro wS hSw; (try dsimp only at hSw); (try go_split_ands); (simp only [List.getElem_toArray, List.getElem_cons_succ, List.getElem_cons_zero]); go_simp <;> (with_reducible rfl))
              try simp only [List.getElem_toArray, List.getElem_cons_succ, List.getElem_cons_zero, Act.put, List.setIfInBounds_toArray, List.set_cons_zero, List.set_cons_succ]
              refine wpAnyH_take (i := 14) (oi := _) (v := ?_) rfl (by kernel_rfl) (by kernel_rfl) (by kernel_rfl) (fun _ _ _ h => h) (Or.inl ⟨by rfl, ?_⟩) (by assumption) ?_
              rotate_left
              · (intro wS hSw; (try dsimp only at hSw); (try go_split_ands); (simp only [List.getElem_toArray, List.getElem_cons_succ, List.getElem_cons_zero]); go_simp <;> (with_reducible rfl))
              try simp only [List.getElem_toArray, List.getElem_cons_succ, List.getElem_cons_zero, Act.put, List.setIfInBounds_toArray, List.set_cons_zero, List.set_cons_succ]
              refine wpAnyH_take (i := 15) (oi := _) (v := ?_) rfl (by kernel_rfl) (by kernel_rfl) (by kernel_rfl) (fun _ _ _ h => h) (Or.inl ⟨by rfl, ?_⟩) (by assumption) ?_
              rotate_left
              · (intro wS hSw; (try dsimp only at hSw); (try go_split_ands); (simp only [List.getElem_toArray, List.getElem_cons_succ, List.getElem_cons_zero]); go_simp <;> (with_reducible rfl))
              try simp only [List.getElem_toArray, List.getElem_cons_succ, List.getElem_cons_zero, Act.put, List.setIfInBounds_toArray, List.set_cons_zero, List.set_cons_succ]
              refine wpAnyH_take (i := 16) (oi := _) (v := ?_) rfl (by kernel_rfl) (by kernel_rfl) (by kernel_rfl) (fun _ _ _ h => h) (Or.inl ⟨by rfl, ?_⟩) (by assumption) ?_
              rotate_left
              · (intro wS hSw; (try dsimp only at hSw); (try go_split_ands); (simp only [List.getElem_toArray, List.getElem_cons_succ, List.getElem_cons_zero]); go_simp <;> (with_reducible rfl))
              try simp only [List.getElem_toArray, List.getElem_cons_succ, List.getElem_cons_zero, Act.put, List.setIfInBounds_toArray, List.set_cons_zero, List.set_cons_succ]
              refine wpAnyH_ready (rs := [17]) (by kernel_rfl) (by simp) (AllReadyH.cons (o := _) rfl (fun K hK => ?_) AllReadyH.nil)
              simp only [List.getElem_toArray, List.getElem_cons_succ, List.getElem_cons_zero]
              go_simp
              (go_at_call 19; refine (qA.out _).mono ?_; rintro e w' ⟨rfl, hb3⟩; replace hbx := bt2 hbx hb3)
              refine hK.out _ _ ?_ (fun hHeld => ?_)
              · exact ⟨cell_on hbx c0, cell_on hbx c1, cell_on hbx c2, cell_on hbx ca0, cell_on hbx ca1, cell_on hbx ca2, cell_on hbx cb0, cell_on hbx cb1, cell_on hbx cb2⟩
              clear hK K hb3
              try simp only [List.getElem_toArray, List.getElem_cons_succ, List.getElem_cons_zero, Act.put, List.setIfInBounds_toArray, List.set_cons_zero, List.set_cons_succ]
              refine wpAnyH_take (i := 18) (oi := _) (v := ?_) rfl (by kernel_rfl) (by kernel_rfl) (by kernel_rfl) (fun _ _ _ h => h) (Or.inl ⟨by rfl, ?_⟩) (by assumption) ?_
              rotate_left
              · (intro wS hSw; (try dsimp only at hSw); (try go_split_ands); (simp only [List.getElem_toArray, List.getElem_cons_succ, List.getElem_cons_zero]); go_simp <;> (with_reducible rfl))
              try simp only [List.getElem_toArray, List.getElem_cons_succ, List.getElem_cons_zero, Act.put, List.setIfInBounds_toArray, List.set_cons_zero, List.set_cons_succ]
              refine wpAnyH_take (i := 19) (oi := _) (v := ?_) rfl (by kernel_rfl) (by kernel_rfl) (by kernel_rfl) (fun _ _ _ h => h) (Or.inl ⟨by rfl, ?_⟩) (by assumption) ?_
              rotate_left
              · (intro wS hSw; (try dsimp only at hSw); (try go_split_ands); (simp only [List.getElem_toArray, List.getElem_cons_succ, List.getElem_cons_zero]); go_simp <;> (with_reducible rfl))
              try simp only [List.getElem_toArray, List.getElem_cons_succ, List.getElem_cons_zero, Act.put, List.setIfInBounds_toArray, List.set_cons_zero, List.set_cons_succ]
              refine wpAnyH_done (by kernel_rfl) ?_ _
              refine NoPanic.normal ?_
              clear hHeld
              go_wp2_with fail
              go_roundw
              case rel => exact ⟨k + 1, by omega, by go_num, bt hb hbx hb.size⟩
              case measure => simp [intOf]; omega
            · obtain rfl : q = 1 := by omega
              clear hT t5' hq
              have hbx : Below wr.heap.size wr wr.drew := (Below.refl _ _).drew
              go_wp2_with fail
              refine wp_region_noPanic ?_
              refine wp_region_held_drew (S := (fun w' => w'.cell? ⟨w3.heap.size, k * 3, none⟩ = some (.int .i64 x.k) ∧ w'.cell? ⟨w3.heap.size, k * 3 + 1, none⟩ = some (.int .i64 x.n) ∧ w'.cell? ⟨w3.heap.size, k * 3 + 2, none⟩ = some (.string x.s) ∧
    w'.cell? ⟨w1.heap.size, 0, none⟩ = some (.int .i64 a.k) ∧ w'.cell? ⟨w1.heap.size, 1, none⟩ = some (.int .i64 a.n) ∧ w'.cell? ⟨w1.heap.size, 2, none⟩ = some (.string a.s) ∧
    w'.cell? ⟨w1.heap.size + 1, 0, none⟩ = some (.int .i64 b.k) ∧ w'.cell? ⟨w1.heap.size + 1, 1, none⟩ = some (.int .i64 b.n) ∧ w'.cell? ⟨w1.heap.size + 1, 2, none⟩ = some (.string b.s))) (by kernel_rfl) ?_ (fun hHeld => ?_)
              · exact ⟨cell_on hbx c0, cell_on hbx c1, cell_on hbx c2, cell_on hbx ca0, cell_on hbx ca1, cell_on hbx ca2, cell_on hbx cb0, cell_on hbx cb1, cell_on hbx cb2⟩
              refine wpAnyH_take (i := 0) (oi := _) (v := ?_) rfl (by kernel_rfl) (by kernel_rfl) (by kernel_rfl) (fun _ _ _ h => h) (Or.inl ⟨by rfl, ?_⟩) (by assumption) ?_
              rotate_left
              · (intro wS hSw; (try dsimp only at hSw); (try go_split_ands); (simp only [List.getElem_toArray, List.getElem_cons_succ, List.getElem_cons_zero]); go_simp <;> (with_reducible rfl))
              try simp only [List.getElem_toArray, List.getElem_cons_succ, List.getElem_cons_zero, Act.put, List.setIfInBounds_toArray, List.set_cons_zero, List.set_cons_succ]
              refine wpAnyH_take (i := 1) (oi := _) (v := ?_) rfl (by kernel_rfl) (by kernel_rfl) (by kernel_rfl) (fun _ _ _ h => h) (Or.inl ⟨by rfl, ?_⟩) (by assumption) ?_
              rotate_left
              · (intro wS hSw; (try dsimp only at hSw); (try go_split_ands); (simp only [List.getElem_toArray, List.getElem_cons_succ, List.getElem_cons_zero]); go_simp <;> (with_reducible rfl))
              try simp only [List.getElem_toArray, List.getElem_cons_succ, List.getElem_cons_zero, Act.put, List.setIfInBounds_toArray, List.set_cons_zero, List.set_cons_succ]
              refine wpAnyH_take (i := 2) (oi := _) (v := ?_) rfl (by kernel_rfl) (by kernel_rfl) (by kernel_rfl) (fun _ _ _ h => h) (Or.inl ⟨by rfl, ?_⟩) (by assumption) ?_
              rotate_left
              · (intro wS hSw; (try dsimp only at hSw); (try go_split_ands); (simp only [List.getElem_toArray, List.getElem_cons_succ, List.getElem_cons_zero]); go_simp <;> (with_reducible rfl))
              try simp only [List.getElem_toArray, List.getElem_cons_succ, List.getElem_cons_zero, Act.put, List.setIfInBounds_toArray, List.set_cons_zero, List.set_cons_succ]
              refine wpAnyH_take (i := 3) (oi := _) (v := ?_) rfl (by kernel_rfl) (by kernel_rfl) (by kernel_rfl) (fun _ _ _ h => h) (Or.inl ⟨by rfl, ?_⟩) (by assumption) ?_
              rotate_left
              · (intro wS hSw; (try dsimp only at hSw); (try go_split_ands); (simp only [List.getElem_toArray, List.getElem_cons_succ, List.getElem_cons_zero]); go_simp <;> (with_reducible rfl))
              try simp only [List.getElem_toArray, List.getElem_cons_succ, List.getElem_cons_zero, Act.put, List.setIfInBounds_toArray, List.set_cons_zero, List.set_cons_succ]
              refine wpAnyH_take (i := 4) (oi := _) (v := ?_) rfl (by kernel_rfl) (by kernel_rfl) (by kernel_rfl) (fun _ _ _ h => h) (Or.inl ⟨by rfl, ?_⟩) (by assumption) ?_
              rotate_left
              · (intro wS hSw; (try dsimp only at hSw); (try go_split_ands); (simp only [List.getElem_toArray, List.getElem_cons_succ, List.getElem_cons_zero]); go_simp <;> (with_reducible rfl))
              try simp only [List.getElem_toArray, List.getElem_cons_succ, List.getElem_cons_zero, Act.put, List.setIfInBounds_toArray, List.set_cons_zero, List.set_cons_succ]
              refine wpAnyH_take (i := 5) (oi := _) (v := ?_) rfl (by kernel_rfl) (by kernel_rfl) (by kernel_rfl) (fun _ _ _ h => h) (Or.inl ⟨by rfl, ?_⟩) (by assumption) ?_
              rotate_left
              · (intro wS hSw; (try dsimp only at hSw); (try go_split_ands); (simp only [List.getElem_toArray, List.getElem_cons_succ, List.getElem_cons_zero]); go_simp <;> (with_reducible rfl))
              try simp only [List.getElem_toArray, List.getElem_cons_succ, List.getElem_cons_zero, Act.put, List.setIfInBounds_toArray, List.set_cons_zero, List.set_cons_succ]
              refine wpAnyH_take (i := 6) (oi := _) (v := ?_) rfl (by kernel_rfl) (by kernel_rfl) (by kernel_rfl) (fun _ _ _ h => h) (Or.inl ⟨by rfl, ?_⟩) (by assumption) ?_
              rotate_left
              · (intro wS hSw; (try dsimp only at hSw); (try go_split_ands); (simp only [List.getElem_toArray, List.getElem_cons_succ, List.getElem_cons_zero]); go_simp <;> (with_reducible rfl))
              try simp only [List.getElem_toArray, List.getElem_cons_succ, List.getElem_cons_zero, Act.put, List.setIfInBounds_toArray, List.set_cons_zero, List.set_cons_succ]
              refine wpAnyH_take (i := 7) (oi := _) (v := ?_) rfl (by kernel_rfl) (by kernel_rfl) (by kernel_rfl) (fun _ _ _ h => h) (Or.inl ⟨by rfl, ?_⟩) (by assumption) ?_
              rotate_left
              · (intro wS hSw; (try dsimp only at hSw); (try go_split_ands); (simp only [List.getElem_toArray, List.getElem_cons_succ, List.getElem_cons_zero]); go_simp <;> (with_reducible rfl))
              try simp only [List.getElem_toArray, List.getElem_cons_succ, List.getElem_cons_zero, Act.put, List.setIfInBounds_toArray, List.set_cons_zero, List.set_cons_succ]
              refine wpAnyH_ready (rs := [8]) (by kernel_rfl) (by simp) (AllReadyH.cons (o := _) rfl (fun K hK => ?_) AllReadyH.nil)
              simp only [List.getElem_toArray, List.getElem_cons_succ, List.getElem_cons_zero]
              go_simp
              (go_at_call 19; refine (qB.out _).mono ?_; rintro e w' ⟨rfl, hb3⟩; replace hbx := bt2 hbx hb3)
              refine hK.out _ _ ?_ (fun hHeld => ?_)
              · exact ⟨cell_on hbx c0, cell_on hbx c1, cell_on hbx c2, cell_on hbx ca0, cell_on hbx ca1, cell_on hbx ca2, cell_on hbx cb0, cell_on hbx cb1, cell_on hbx cb2⟩
              clear hK K hb3
              try simp only [List.getElem_toArray, List.getElem_cons_succ, List.getElem_cons_zero, Act.put, List.setIfInBounds_toArray, List.set_cons_zero, List.set_cons_succ]
              refine wpAnyH_take (i := 9) (oi := _) (v := ?_) rfl (by kernel_rfl) (by kernel_rfl) (by kernel_rfl) (fun _ _ _ h => h) (Or.inl ⟨by rfl, ?_⟩) (by assumption) ?_
              rotate_left
              · (intro wS hSw; (try dsimp only at hSw); (try go_split_ands); (simp only [List.getElem_toArray, List.getElem_cons_succ, List.getElem_cons_zero]); go_simp <;> (with_reducible rfl))
              try simp only [List.getElem_toArray, List.getElem_cons_succ, List.getElem_cons_zero, Act.put, List.setIfInBounds_toArray, List.set_cons_zero, List.set_cons_succ]
              refine wpAnyH_take (i := 10) (oi := _) (v := ?_) rfl (by kernel_rfl) (by kernel_rfl) (by kernel_rfl) (fun _ _ _ h => h) (Or.inl ⟨by rfl, ?_⟩) (by assumption) ?_
              rotate_left
              · (intro wS hSw; (try dsimp only at hSw); (try go_split_ands); (simp only [List.getElem_toArray, List.getElem_cons_succ, List.getElem_cons_zero]); go_simp <;> (with_reducible rfl))
              try simp only [List.getElem_toArray, List.getElem_cons_succ, List.getElem_cons_zero, Act.put, List.setIfInBounds_toArray, List.set_cons_zero, List.set_cons_succ]
              refine wpAnyH_take (i := 11) (oi := _) (v := ?_) rfl (by kernel_rfl) (by kernel_rfl) (by kernel_rfl) (fun _ _ _ h => h) (Or.inl ⟨by rfl, ?_⟩) (by assumption) ?_
              rotate_left
              · (intro wS hSw; (try dsimp only at hSw); (try go_split_ands); (simp only [List.getElem_toArray, List.getElem_cons_succ, List.getElem_cons_zero]); go_simp <;> (with_reducible rfl))
              try simp only [List.getElem_toArray, List.getElem_cons_succ, List.getElem_cons_zero, Act.put, List.setIfInBounds_toArray, List.set_cons_zero, List.set_cons_succ]
              refine wpAnyH_take (i := 12) (oi := _) (v := undef) rfl (by kernel_rfl) (by kernel_rfl) (by kernel_rfl) (fun _ _ _ h => h) (Or.inr ⟨by rfl, rfl⟩) (by assumption) ?_
              try simp only [List.getElem_toArray, List.getElem_cons_succ, List.getElem_cons_zero, Act.put, List.setIfInBounds_toArray, List.set_cons_zero, List.set_cons_succ]
              refine wpAnyH_take (i := 13) (oi := _) (v := undef) rfl (by kernel_rfl) (by kernel_rfl) (by kernel_rfl) (fun _ _ _ h => h) (Or.inr ⟨by rfl, rfl⟩) (by assumption) ?_
              try simp only [List.getElem_toArray, List.getElem_cons_succ, List.getElem_cons_zero, Act.put, List.setIfInBounds_toArray, List.set_cons_zero, List.set_cons_succ]
              refine wpAnyH_take (i := 14) (oi := _) (v := undef) rfl (by kernel_rfl) (by kernel_rfl) (by kernel_rfl) (fun _ _ _ h => h) (Or.inr ⟨by rfl, rfl⟩) (by assumption) ?_
              try simp only [List.getElem_toArray, List.getElem_cons_succ, List.getElem_cons_zero, Act.put, List.setIfInBounds_toArray, List.set_cons_zero, List.set_cons_succ]
              refine wpAnyH_take (i := 15) (oi := _) (v := undef) rfl (by kernel_rfl) (by kernel_rfl) (by kernel_rfl) (fun _ _ _ h => h) (Or.inr ⟨by rfl, rfl⟩) (by assumption) ?_
              try simp only [List.getElem_toArray, List.getElem_cons_succ, List.getElem_cons_zero, Act.put, List.setIfInBounds_toArray, List.set_cons_zero, List.set_cons_succ]
              refine wpAnyH_take (i := 16) (oi := _) (v := undef) rfl (by kernel_rfl) (by kernel_rfl) (by kernel_rfl) (fun _ _ _ h => h) (Or.inr ⟨by rfl, rfl⟩) (by assumption) ?_
              try simp only [List.getElem_toArray, List.getElem_cons_succ, List.getElem_cons_zero, Act.put, List.setIfInBounds_toArray, List.set_cons_zero, List.set_cons_succ]
              refine wpAnyH_take (i := 17) (oi := _) (v := undef) rfl (by kernel_rfl) (by kernel_rfl) (by kernel_rfl) (fun _ _ _ h => h) (Or.inr ⟨by rfl, rfl⟩) (by assumption) ?_
              try simp only [List.getElem_toArray, List.getElem_cons_succ, List.getElem_cons_zero, Act.put, List.setIfInBounds_toArray, List.set_cons_zero, List.set_cons_succ]
              refine wpAnyH_take (i := 18) (oi := _) (v := undef) rfl (by kernel_rfl) (by kernel_rfl) (by kernel_rfl) (fun _ _ _ h => h) (Or.inr ⟨by rfl, rfl⟩) (by assumption) ?_
              try simp only [List.getElem_toArray, List.getElem_cons_succ, List.getElem_cons_zero, Act.put, List.setIfInBounds_toArray, List.set_cons_zero, List.set_cons_succ]
              refine wpAnyH_take (i := 19) (oi := _) (v := ?_) rfl (by kernel_rfl) (by kernel_rfl) (by kernel_rfl) (fun _ _ _ h => h) (Or.inl ⟨by rfl, ?_⟩) (by assumption) ?_
              rotate_left
              · (intro wS hSw; (try dsimp only at hSw); (try go_split_ands); (simp only [List.getElem_toArray, List.getElem_cons_succ, List.getElem_cons_zero]); go_simp <;> (with_reducible rfl))
              try simp only [List.getElem_toArray, List.getElem_cons_succ, List.getElem_cons_zero, Act.put, List.setIfInBounds_toArray, List.set_cons_zero, List.set_cons_succ]
              refine wpAnyH_done (by kernel_rfl) ?_ _
              refine NoPanic.normal ?_
              clear hHeld
              go_wp2_with fail
              go_roundw
              case rel => exact ⟨k + 1, by omega, by go_num, bt hb hbx hb.size⟩
              case measure => simp [intOf]; omega
          · clear hT t5'
            have hbx : Below wr.heap.size wr wr.drew := (Below.refl _ _).drew
            go_wp2_with fail
            refine wp_region_noPanic ?_
            refine wp_region_held_drew (S := (fun w' => w'.cell? ⟨w3.heap.size, k * 3, none⟩ = some (.int .i64 x.k) ∧ w'.cell? ⟨w3.heap.size, k * 3 + 1, none⟩ = some (.int .i64 x.n) ∧ w'.cell? ⟨w3.heap.size, k * 3 + 2, none⟩ = some (.string x.s) ∧
    w'.cell? ⟨w1.heap.size, 0, none⟩ = some (.int .i64 a.k) ∧ w'.cell? ⟨w1.heap.size, 1, none⟩ = some (.int .i64 a.n) ∧ w'.cell? ⟨w1.heap.size, 2, none⟩ = some (.string a.s) ∧
    w'.cell? ⟨w1.heap.size + 1, 0, none⟩ = some (.int .i64 b.k) ∧ w'.cell? ⟨w1.heap.size + 1, 1, none⟩ = some (.int .i64 b.n) ∧ w'.cell? ⟨w1.heap.size + 1, 2, none⟩ = some (.string b.s))) (by kernel_rfl) ?_ (fun hHeld => ?_)
            · exact ⟨cell_on hbx c0, cell_on hbx c1, cell_on hbx c2, cell_on hbx ca0, cell_on hbx ca1, cell_on hbx ca2, cell_on hbx cb0, cell_on hbx cb1, cell_on hbx cb2⟩
            refine wpAnyH_take (i := 0) (oi := _) (v := ?_) rfl (by kernel_rfl) (by kernel_rfl) (by kernel_rfl) (fun _ _ _ h => h) (Or.inl ⟨by rfl, ?_⟩) (by assumption) ?_
            rotate_left
            · (intro wS hSw; (try dsimp only at hSw); (try go_split_ands); (simp only [List.getElem_toArray, List.getElem_cons_succ, List.getElem_cons_zero]); go_simp <;> (with_reducible rfl))
            try simp only [List.getElem_toArray, List.getElem_cons_succ, List.getElem_cons_zero, Act.put, List.setIfInBounds_toArray, List.set_cons_zero, List.set_cons_succ]
            refine wpAnyH_take (i := 1) (oi := _) (v := ?_) rfl (by kernel_rfl) (by kernel_rfl) (by kernel_rfl) (fun _ _ _ h => h) (Or.inl ⟨by rfl, ?_⟩) (by assumption) ?_
            rotate_left
            · (intro wS hSw; (try dsimp only at hSw); (try go_split_ands); (simp only [List.getElem_toArray, List.getElem_cons_succ, List.getElem_cons_zero]); go_simp <;> (with_reducible rfl))
            try simp only [List.getElem_toArray, List.getElem_cons_succ, List.getElem_cons_zero, Act.put, List.setIfInBounds_toArray, List.set_cons_zero, List.set_cons_succ]
            refine wpAnyH_take (i := 2) (oi := _) (v := ?_) rfl (by kernel_rfl) (by kernel_rfl) (by kernel_rfl) (fun _ _ _ h => h) (Or.inl ⟨by rfl, ?_⟩) (by assumption) ?_
            rotate_left
            · (intro wS hSw; (try dsimp only at hSw); (try go_split_ands); (simp only [List.getElem_toArray, List.getElem_cons_succ, List.getElem_cons_zero]); go_simp <;> (with_reducible rfl))
            try simp only [List.getElem_toArray, List.getElem_cons_succ, List.getElem_cons_zero, Act.put, List.setIfInBounds_toArray, List.set_cons_zero, List.set_cons_succ]
            refine wpAnyH_take (i := 3) (oi := _) (v := undef) rfl (by kernel_rfl) (by kernel_rfl) (by kernel_rfl) (fun _ _ _ h => h) (Or.inr ⟨by rfl, rfl⟩) (by assumption) ?_
            try simp only [List.getElem_toArray, List.getElem_cons_succ, List.getElem_cons_zero, Act.put, List.setIfInBounds_toArray, List.set_cons_zero, List.set_cons_succ]
            refine wpAnyH_take (i := 4) (oi := _) (v := undef) rfl (by kernel_rfl) (by kernel_rfl) (by kernel_rfl) (fun _ _ _ h => h) (Or.inr ⟨by rfl, rfl⟩) (by assumption) ?_
            try simp only [List.getElem_toArray, List.getElem_cons_succ, List.getElem_cons_zero, Act.put, List.setIfInBounds_toArray, List.set_cons_zero, List.set_cons_succ]
            refine wpAnyH_take (i := 5) (oi := _) (v := undef) rfl (by kernel_rfl) (by kernel_rfl) (by kernel_rfl) (fun _ _ _ h => h) (Or.inr ⟨by rfl, rfl⟩) (by assumption) ?_
            try simp only [List.getElem_toArray, List.getElem_cons_succ, List.getElem_cons_zero, Act.put, List.setIfInBounds_toArray, List.set_cons_zero, List.set_cons_succ]
            refine wpAnyH_take (i := 6) (oi := _) (v := undef) rfl (by kernel_rfl) (by kernel_rfl) (by kernel_rfl) (fun _ _ _ h => h) (Or.inr ⟨by rfl, rfl⟩) (by assumption) ?_
            try simp only [List.getElem_toArray, List.getElem_cons_succ, List.getElem_cons_zero, Act.put, List.setIfInBounds_toArray, List.set_cons_zero, List.set_cons_succ]
            refine wpAnyH_take (i := 7) (oi := _) (v := undef) rfl (by kernel_rfl) (by kernel_rfl) (by kernel_rfl) (fun _ _ _ h => h) (Or.inr ⟨by rfl, rfl⟩) (by assumption) ?_
            try simp only [List.getElem_toArray, List.getElem_cons_succ, List.getElem_cons_zero, Act.put, List.setIfInBounds_toArray, List.set_cons_zero, List.set_cons_succ]
            refine wpAnyH_take (i := 8) (oi := _) (v := undef) rfl (by kernel_rfl) (by kernel_rfl) (by kernel_rfl) (fun _ _ _ h => h) (Or.inr ⟨by rfl, rfl⟩) (by assumption) ?_
            try simp only [List.getElem_toArray, List.getElem_cons_succ, List.getElem_cons_zero, Act.put, List.setIfInBounds_toArray, List.set_cons_zero, List.set_cons_succ]
            refine wpAnyH_take (i := 9) (oi := _) (v := undef) rfl (by kernel_rfl) (by kernel_rfl) (by kernel_rfl) (fun _ _ _ h => h) (Or.inr ⟨by rfl, rfl⟩) (by assumption) ?_
            try simp only [List.getElem_toArray, List.getElem_cons_succ, List.getElem_cons_zero, Act.put, List.setIfInBounds_toArray, List.set_cons_zero, List.set_cons_succ]
            refine wpAnyH_take (i := 10) (oi := _) (v := ?_) rfl (by kernel_rfl) (by kernel_rfl) (by kernel_rfl) (fun _ _ _ h => h) (Or.inl ⟨by rfl, ?_⟩) (by assumption) ?_
            rotate_left
            · (intro wS hSw; (try dsimp only at hSw); (try go_split_ands); (simp only [List.getElem_toArray, List.getElem_cons_succ, List.getElem_cons_zero]); go_simp <;> (with_reducible rfl))
            try simp only [List.getElem_toArray, List.getElem_cons_succ, List.getElem_cons_zero, Act.put, List.setIfInBounds_toArray, List.set_cons_zero, List.set_cons_succ]
            refine wpAnyH_take (i := 11) (oi := _) (v := ?_) rfl (by kernel_rfl) (by kernel_rfl) (by kernel_rfl) (fun _ _ _ h => h) (Or.inl ⟨by rfl, ?_⟩) (by assumption) ?_
            rotate_left
            · (intro wS hSw; (try dsimp only at hSw); (try go_split_ands); (simp only [List.getElem_toArray, List.getElem_cons_succ, List.getElem_cons_zero]); go_simp <;> (with_reducible rfl))
            try simp only [List.getElem_toArray, List.getElem_cons_succ, List.getElem_cons_zero, Act.put, List.setIfInBounds_toArray, List.set_cons_zero, List.set_cons_succ]
            refine wpAnyH_take (i := 12) (oi := _) (v := undef) rfl (by kernel_rfl) (by kernel_rfl) (by kernel_rfl) (fun _ _ _ h => h) (Or.inr ⟨by rfl, rfl⟩) (by assumption) ?_
            try simp only [List.getElem_toArray, List.getElem_cons_succ, List.getElem_cons_zero, Act.put, List.setIfInBounds_toArray, List.set_cons_zero, List.set_cons_succ]
            refine wpAnyH_take (i := 13) (oi := _) (v := undef) rfl (by kernel_rfl) (by kernel_rfl) (by kernel_rfl) (fun _ _ _ h => h) (Or.inr ⟨by rfl, rfl⟩) (by assumption) ?_
            try simp only [List.getElem_toArray, List.getElem_cons_succ, List.getElem_cons_zero, Act.put, List.setIfInBounds_toArray, List.set_cons_zero, List.set_cons_succ]
            refine wpAnyH_take (i := 14) (oi := _) (v := undef) rfl (by kernel_rfl) (by kernel_rfl) (by kernel_rfl) (fun _ _ _ h => h) (Or.inr ⟨by rfl, rfl⟩) (by assumption) ?_
            try simp only [List.getElem_toArray, List.getElem_cons_succ, List.getElem_cons_zero, Act.put, List.setIfInBounds_toArray, List.set_cons_zero, List.set_cons_succ]
            refine wpAnyH_take (i := 15) (oi := _) (v := undef) rfl (by kernel_rfl) (by kernel_rfl) (by kernel_rfl) (fun _ _ _ h => h) (Or.inr ⟨by rfl, rfl⟩) (by assumption) ?_
            try simp only [List.getElem_toArray, List.getElem_cons_succ, List.getElem_cons_zero, Act.put, List.setIfInBounds_toArray, List.set_cons_zero, List.set_cons_succ]
            refine wpAnyH_take (i := 16) (oi := _) (v := undef) rfl (by kernel_rfl) (by kernel_rfl) (by kernel_rfl) (fun _ _ _ h => h) (Or.inr ⟨by rfl, rfl⟩) (by assumption) ?_
            try simp only [List.getElem_toArray, List.getElem_cons_succ, List.getElem_cons_zero, Act.put, List.setIfInBounds_toArray, List.set_cons_zero, List.set_cons_succ]
            refine wpAnyH_take (i := 17) (oi := _) (v := undef) rfl (by kernel_rfl) (by kernel_rfl) (by kernel_rfl) (fun _ _ _ h => h) (Or.inr ⟨by rfl, rfl⟩) (by assumption) ?_
            try simp only [List.getElem_toArray, List.getElem_cons_succ, List.getElem_cons_zero, Act.put, List.setIfInBounds_toArray, List.set_cons_zero, List.set_cons_succ]
            refine wpAnyH_take (i := 18) (oi := _) (v := undef) rfl (by kernel_rfl) (by kernel_rfl) (by kernel_rfl) (fun _ _ _ h => h) (Or.inr ⟨by rfl, rfl⟩) (by assumption) ?_
            try simp only [List.getElem_toArray, List.getElem_cons_succ, List.getElem_cons_zero, Act.put, List.setIfInBounds_toArray, List.set_cons_zero, List.set_cons_succ]
            refine wpAnyH_take (i := 19) (oi := _) (v := ?_) rfl (by kernel_rfl) (by kernel_rfl) (by kernel_rfl) (fun _ _ _ h => h) (Or.inl ⟨by rfl, ?_⟩) (by assumption) ?_
            rotate_left
            · (intro wS hSw; (try dsimp only at hSw); (try go_split_ands); (simp only [List.getElem_toArray, List.getElem_cons_succ, List.getElem_cons_zero]); go_simp <;> (with_reducible rfl))
            try simp only [List.getElem_toArray, List.getElem_cons_succ, List.getElem_cons_zero, Act.put, List.setIfInBounds_toArray, List.set_cons_zero, List.set_cons_succ]
            refine wpAnyH_done (by kernel_rfl) ?_ _
            refine NoPanic.normal ?_
            clear hHeld
            go_wp2_with fail
            go_roundw
            case rel => exact ⟨k + 1, by omega, by go_num, bt hb hbx hb.size⟩
            case measure => simp [intOf]; omega
        · obtain rfl : k = 3 := by omega
          go_wp2_with fail
          go_ret
          exact ⟨rfl, bt hbL hb hbL.size⟩

end Go.Proofs.Ytngmiaglbmkbcaa
