/-
  Pages: a page with another slot, as the reference makes it. Conditions: the slots read as a list of at most nine.
-/
import Derived.Test.YtnhkpigakbiddaaScanX
import Derived.Laws.AppendOwnNone
namespace Go.Proofs.Ytnhkpigakbiddaa
open Go.RowKit
set_option linter.unusedVariables false
set_option linter.unusedSimpArgs false

theorem rl_none {α : Type} {enc : α → List Value} {size : Nat} {w : World} {xs : List α} (h : Rl enc size w none xs) : xs = [] := by
  rcases h with h | ⟨b, off, he, _⟩
  · exact h
  · cases he
theorem Rl.flat {α : Type} {enc : α → List Value} {size : Nat} {w : World} {a : Addr} {xs : List α} (h : Rl enc size w (some a) xs) (hs : ∀ x, (enc x).length = size) (h0 : 0 < size) : ∀ j u, (xs.flatMap enc)[j]? = some u → w.cell? (a.add j) = some u := by
  rcases h with h | ⟨b, off, he, hc⟩
  · subst h
    intro j u hu
    simp at hu
  · obtain rfl : a = ⟨b, off, none⟩ := by simpa using he
    intro j u hu
    have hj := (List.getElem?_eq_some_iff.1 hu).1
    rw [length_flatMap_size hs] at hj
    have hk : j / size < xs.length := Nat.div_lt_of_lt_mul (by rw [Nat.mul_comm]; exact hj)
    have hr : j % size < (enc xs[j / size]).length := by rw [hs]; exact Nat.mod_lt _ h0
    have h1 := getElem?_flatMap_size hs xs (j / size) (j % size) _ _ (List.getElem?_eq_getElem hk) (List.getElem?_eq_getElem hr)
    have e : j / size * size + j % size = j := Nat.div_add_mod' j size
    rw [e, hu] at h1
    have h2 := hc _ _ (List.getElem?_eq_getElem hk) _ _ (List.getElem?_eq_getElem hr)
    rw [Nat.add_assoc, e] at h2
    rw [add_at, h2, h1]
theorem one_flat {α : Type} {enc : α → List Value} (h1 : ∀ x, ∀ u ∈ enc x, u.oneCell' = true) (xs : List α) : ∀ u ∈ xs.flatMap enc, u.oneCell' = true := fun u hu => by
  obtain ⟨x, _, h⟩ := List.mem_flatMap.1 hu
  exact h1 x u h
/-- A list appended onto an empty row of the call's own. -/
theorem wpList_cpy {P : Program} {ops : Array Oper} {rest : List Oper} {o : Oper} {a : Act} {Q : Exit → Act → World → Prop} {w0 : World} {α : Type} {enc : α → List Value} {size bytes : Nat} {t e : TypeId} {i : TypeInfo} {z : Value}
    (ht : P.underlying t = some (.slice e)) (hi : P.info? e = some i) (hz : i.zero = some z) (hsize : i.size = size) (hby : i.bytes = bytes) (hzs : z.cells.size = size) (hsz : 0 < size) (hb : bytes ≤ 64)
    (henc : ∀ x, (enc x).length = size) (hone : ∀ x, ∀ u ∈ enc x, u.oneCell' = true) (hgd : o.guard = none) (s x : Operand) (ho : o.op = .call { callee := .builtin .append, args := #[s, x], argTypes := #[t, t] })
    (base G : Nat) (hs : a.eval s = .slice (some ⟨G, 0, none⟩) 0 0) (hG : w0.heap[G]? = some (.cells #[] e (0, 0))) (hbase : base ≤ G) (A : Option Addr) (c : Nat) (xs : List α) (hx : a.eval x = .slice A xs.length c) (hA : A = none → c = 0) (hr : Rl enc size w0 A xs) (hl : xs.length ≤ 10000)
    (h : ∀ v' w', w'.ownsRow base e size v' xs.length (xs.flatMap enc) → w0.grownBy w' (some G) → wpList P ops Q rest (a.put o.dst v') w') : wpList P ops Q (o :: rest) a w0 := by
  have hown : w0.ownsRow base e size (.slice (some ⟨G, 0, none⟩) 0 0) 0 [] := ⟨by simp, .inr ⟨G, 0, #[], rfl, hbase, hG, Nat.le_refl _, by unfold maxLen; omega, by simp, by simp⟩⟩
  have hGl : G < w0.heap.size := (Array.getElem?_eq_some_iff.1 hG).1
  cases A with
  | none =>
    obtain rfl := rl_none hr
    obtain rfl := hA rfl
    exact wpList_append_own_none hgd s x t ho base e i size ht hi _ 0 [] hs hown hx (h _ _ (by simpa using hown) (World.grownBy.refl _ _))
  | some ad =>
    have hbytes : (0 + xs.length) * bytes ≤ 10000 * 64 := Nat.mul_le_mul (by omega) hb
    refine wpList_append_own _ hgd s x t ho base e i z size bytes ht hi hz hsize hby hzs hsz _ 0 [] hs hown ad xs.length c (xs.flatMap enc) hx (by rw [length_flatMap_size henc]) (hr.flat henc hsz) (one_flat hone xs) (by unfold maxLen; omega) (by omega) (by omega) (fun v' w' ho' hg _ => h v' w' (by simpa using ho') hg)
theorem encP_one (x : Sl) : ∀ u ∈ encP x, u.oneCell' = true := by
  intro u hu
  simp [encP] at hu
  rcases hu with rfl | rfl <;> rfl
theorem own_form {w : World} {B e size n : Nat} {v : Value} {xs : List Value} (h : w.ownsRow B e size v n xs) : ∃ a m c, v = .slice a m c := by
  rcases h.2 with ⟨rfl, _⟩ | ⟨g, cap, cur, rfl, _⟩
  · exact ⟨_, _, _, rfl⟩
  · exact ⟨_, _, _, rfl⟩
def lenV : Value → Nat | .slice _ n _ => n | _ => 0
/-- A page made out of a list's slots and one more. -/
def WithR (xs : List Sl) (k : Nat) (s : Sl) (w : World) (e : Ending) (w' : World) : Prop :=
  ∃ v : Value, ∃ ys : List Sl, e = .returned (.agg #[v]) ∧ Below w.heap.size w w' ∧ w'.ownsRow w.heap.size 43 2 v ys.length (ys.flatMap encP) ∧ ys.length ≤ xs.length + 1 ∧ (k < xs.length → ys.length ≤ xs.length) ∧ ∀ y ∈ ys, y ∈ xs ∨ y = s

set_option maxRecDepth 4000 in
set_option maxHeartbeats 4000000 in
theorem withS (A : Option Addr) (c : Nat) (xs : List Sl) (k : Nat) (s : Sl) (w : World) (hr : Rl encP 2 w A xs) (hA : A = none → c = 0) (hl : xs.length ≤ 9) (hcap : xs.length ≤ c) (hk : k ≤ xs.length) :
    Calls Try.prog 75 #[.agg #[.slice A xs.length c], .int .i64 (k : Int), .agg #[.bool s.l, .string s.d]] w (WithR xs k s w) := by
  obtain ⟨i0, hi, hz0, hz1, hz2⟩ := info_parts infoSl
  have hi' := hide hi; have hz0' := hide hz0; have hz1' := hide hz1; have hz2' := hide hz2
  clear hi hz0 hz1 hz2
  obtain ⟨sl, sd⟩ := s
  have hA' := hide hA
  clear hA
  have hb0 : Below w.heap.size w ((((w.alloc (.cells #[.slice A xs.length c] 29)).alloc (.cells #[.bool sl, .string sd] 43)).alloc (.cells #[.slice none 0 0] 29)).alloc (.cells #[] 43)) := by go_grown
  have kP : Blk ((((w.alloc (.cells #[.slice A xs.length c] 29)).alloc (.cells #[.bool sl, .string sd] 43)).alloc (.cells #[.slice none 0 0] 29)).alloc (.cells #[] 43)) w.heap.size 29 #[.slice A xs.length c] := ((((Blk.new w 29 #[.slice A xs.length c]).alloc _).alloc _).alloc _)
  have kS : Blk ((((w.alloc (.cells #[.slice A xs.length c] 29)).alloc (.cells #[.bool sl, .string sd] 43)).alloc (.cells #[.slice none 0 0] 29)).alloc (.cells #[] 43)) (w.heap.size + 1) 43 #[.bool sl, .string sd] := by
    have := (((Blk.new (w.alloc (.cells #[.slice A xs.length c] 29)) 43 #[.bool sl, .string sd]).alloc (.cells #[.slice none 0 0] 29)).alloc (.cells #[] 43))
    simpa using this
  have kR : Blk ((((w.alloc (.cells #[.slice A xs.length c] 29)).alloc (.cells #[.bool sl, .string sd] 43)).alloc (.cells #[.slice none 0 0] 29)).alloc (.cells #[] 43)) (w.heap.size + 1 + 1) 29 #[.slice none 0 0] := by
    have := (Blk.new ((w.alloc (.cells #[.slice A xs.length c] 29)).alloc (.cells #[.bool sl, .string sd] 43)) 29 #[.slice none 0 0]).alloc (.cells #[] 43)
    simpa using this
  have hG : Blk ((((w.alloc (.cells #[.slice A xs.length c] 29)).alloc (.cells #[.bool sl, .string sd] 43)).alloc (.cells #[.slice none 0 0] 29)).alloc (.cells #[] 43)) (w.heap.size + 1 + 1 + 1) 43 #[] := by
    have := Blk.new (((w.alloc (.cells #[.slice A xs.length c] 29)).alloc (.cells #[.bool sl, .string sd] 43)).alloc (.cells #[.slice none 0 0] 29)) 43 #[]
    simpa using this
  have hr0 := hr.below hb0
  have hsz0 : ((((w.alloc (.cells #[.slice A xs.length c] 29)).alloc (.cells #[.bool sl, .string sd] 43)).alloc (.cells #[.slice none 0 0] 29)).alloc (.cells #[] 43)).heap.size = w.heap.size + 1 + 1 + 1 + 1 := by simp
  have hsz0' := hide hsz0
  clear hsz0
  by_cases hat : k = xs.length
  · have e1 : ((k : Int) == (xs.length : Int)) = true := by rw [hat]; simp
    have hkge : xs.length ≤ k := by omega
    clear hat
    go_enter Try.func75, Try.ntmps75
    go_wp2_with (first
      | (at_builtin; refine wpList_cpy Try.underlying27 hi'.out hz0'.out hz1'.out hz2'.out rfl (by decide) (by decide) encP_len encP_one rfl _ _ rfl (w.heap.size + 1 + 1 + 1) (w.heap.size + 1 + 1 + 1) rfl hG (Nat.le_refl _) A c xs rfl hA'.out hr0 (by omega) ?_; intro v1 w1 hown1 hg1;
          (have kS1 := kS.kept hg1 (by simp)); (have kR1 := kR.kept hg1 (by simp)); (have hb1 : Below w.heap.size w w1 := below_of_grown hb0 hg1 (by omega) hb0.size); (have hz1s : w.heap.size + 1 + 1 + 1 + 1 ≤ w1.heap.size := (by have := hg1.size; have := hsz0'.out; omega));
          (have cS0 : w1.cell? ⟨w.heap.size + 1, 0, none⟩ = some (.bool sl) := kS1.cell 0); (have cS1 : w1.cell? ⟨w.heap.size + 1, 1, none⟩ = some (.string sd) := kS1.cell 1);
          (have hge1 : ∀ q, v1.ownBlock = some q → w.heap.size + 1 + 1 + 1 ≤ q := fun q hq => ow_ge hown1 hq); clear hG hr0 kP; (obtain ⟨A1, c1, rfl, hL1, hblk1⟩ := ow_open (by omega) encP_len hown1))
      | (at_builtin; refine wpList_elem Try.underlying27 hi'.out hz0'.out hz1'.out hz2'.out rfl (by decide) (by decide) encP_len encP_one rfl _ _ rfl (w.heap.size + 1 + 1 + 1) _ xs rfl hown1 ⟨sl, sd⟩ _ rfl _ rfl rfl (by omega) (by omega) ?_; intro v2 w2 hown2 hg2; (have kR2 := kR1.kept hg2 (fun e => by have := hge1 _ e.symm; omega)); (have hb2 : Below w.heap.size w w2 := hb1.grown hg2 hb1.size (fun q hq => by have := hge1 q hq; omega)); (obtain ⟨A2, c2, rfl, hL2, hblk2⟩ := ow_open (by omega) encP_len hown2)))
    obtain ⟨g, arr, rfl, hge, hB, harr⟩ := hblk2.resolve_left (by simp)
    have hmem : Hid (∀ y ∈ xs ++ [⟨sl, sd⟩], y ∈ xs ∨ y = ⟨sl, sd⟩) := fun y hy => by simpa using hy
    have hlen : (xs ++ [⟨sl, sd⟩] : List Sl).length = xs.length + 1 := by simp
    have hlen' : (xs ++ [⟨sl, sd⟩] : List Sl).length ≤ xs.length + 1 := by omega
    have hcap2 := hL2.cap
    have hmax2 := hL2.max
    have hrl2 := hL2.rl
    have hzw2 := hb2.size
    have hgl := hB.lt
    have hat0 : xs.length + 1 ≤ (xs ++ [⟨sl, sd⟩] : List Sl).length := by omega
    clear hlen hblk2 hL2 hown2 hL1 hblk1 hown1 hg1 hg2 hge1 kS1 kR1 hb1 cS0 cS1 hge hB harr
    generalize (xs ++ [⟨sl, sd⟩] : List Sl) = ys at hmem hlen' hcap2 hrl2 hat0 ⊢
    go_loop [7] (fun u => ∃ m : Nat, m ≤ ys.length ∧ u = .slice (some ⟨g, 0, none⟩) m c2) (fun u => lenV u)
    case atStart => exact ⟨_, hat0, rfl⟩
    case round =>
      obtain ⟨m, hm, rfl⟩ := hrel
      by_cases hm0 : 0 < m
      · obtain ⟨q, hq⟩ : ∃ q, m = q + 1 := ⟨m - 1, by omega⟩
        obtain ⟨b, off, hA2, c0, c1'⟩ := hrl2.slot (k := q) (by omega)
        obtain ⟨rfl, rfl⟩ : g = b ∧ 0 = off := by simpa using hA2
        rw [Nat.zero_add] at c0 c1'
        have hm1 : (0 : Int) < (m : Int) := by omega
        have hm2 : (1 : Int) ≤ (m : Int) := by omega
        have hm3 : ((m : Int) - 1).toNat = q := by omega
        have hmc : (m : Int) ≤ (c2 : Int) := by omega
        generalize ys[q]'(by omega) = z at c0 c1'
        obtain ⟨zl, zd⟩ := z
        simp only at c0 c1'
        clear c1' hA2
        cases zl
        · have hmn : m - 1 ≤ ys.length := by omega
          have hms : m - 1 < m := by omega
          clear hq
          go_wp2_with fail
          go_round
          case rel => exact ⟨q, by omega, by first | rfl | go_num⟩
          case measure => simp [lenV] <;> omega
        · clear hq
          obtain ⟨zs, hz⟩ : ∃ zs : List Sl, zs = ys.take m := ⟨_, rfl⟩
          have hrz : Rl encP 2 (w2.alloc (.cells #[] 43)) (some ⟨g, 0, none⟩) zs := by rw [hz]; exact (hrl2.take m).alloc _
          have hmz : Hid (∀ y ∈ zs, y ∈ xs ∨ y = ⟨sl, sd⟩) := fun y hy => hmem.out y (by rw [hz] at hy; exact List.mem_of_mem_take hy)
          have hzl : m = zs.length := by rw [hz, List.length_take]; omega
          clear hz hmem
          obtain rfl := hzl
          have hkl := kR2.lt
          have hG3 := Blk.new w2 43 #[]
          have kR3' := kR2.alloc (.cells #[] 43)
          have hb3' := hb2.alloc hb2.size (.cells #[] 43)
          have hrz' := hide hrz
          clear hrz hrl2
          go_wp2_with (first
            | (at_builtin; refine wpList_cpy Try.underlying27 hi'.out hz0'.out hz1'.out hz2'.out rfl (by decide) (by decide) encP_len encP_one rfl _ _ rfl w2.heap.size w2.heap.size rfl hG3 (Nat.le_refl _) (some ⟨g, 0, none⟩) c2 zs rfl (fun e => by cases e) hrz'.out (by omega) ?_; intro v3 w3 hown3 hg3;
                (obtain ⟨va, vm, vc, rfl⟩ := own_form hown3); (have kR3 := kR3'.kept hg3 (by simp; omega)); (have r0 : w3.cell? ⟨w.heap.size + 1 + 1, 0, none⟩ = some (.slice none 0 0) := kR3.cell 0); (have s0 := kR3.free 0);
                (have hb3 : Below w.heap.size w w3 := below_of_grown hb3' hg3 (by omega) hb3'.size)))
          have kF := kR3.set 0 (.slice va vm vc)
          have gF := grown_set (g := w.heap.size + 1 + 1) (World.grownBy.refl w3 _) (p := ⟨w.heap.size + 1 + 1, 0, none⟩) (.inl rfl) (.slice va vm vc)
          have hbF := below_of_grown hb3 gF (by omega) hb3.size
          have hownF := ow_kept hown3 gF (fun q e => by cases e; omega)
          generalize hF : World.setCell _ _ _ = wF at kF gF hbF hownF ⊢
          have y0 : wF.cell? ⟨w.heap.size + 1 + 1, 0, none⟩ = some (.slice va vm vc) := kF.cell 0
          refine bodyPost_ret (v := .agg #[.slice va vm vc]) (by simp [results, Try.f75, go_sem, y0] <;> rfl) rfl ?_
          exact ⟨_, zs, rfl, hbF, ow_mono hownF (by omega), by omega, fun hkk => by omega, hmz.out⟩
      · have hm1 : ¬ ((0 : Int) < (m : Int)) := by omega
        obtain ⟨zs, hz⟩ : ∃ zs : List Sl, zs = ys.take m := ⟨_, rfl⟩
        have hrz : Rl encP 2 (w2.alloc (.cells #[] 43)) (some ⟨g, 0, none⟩) zs := by rw [hz]; exact (hrl2.take m).alloc _
        have hmz : Hid (∀ y ∈ zs, y ∈ xs ∨ y = ⟨sl, sd⟩) := fun y hy => hmem.out y (by rw [hz] at hy; exact List.mem_of_mem_take hy)
        have hzl : m = zs.length := by rw [hz, List.length_take]; omega
        clear hz hmem
        obtain rfl := hzl
        have hkl := kR2.lt
        have hG3 := Blk.new w2 43 #[]
        have kR3' := kR2.alloc (.cells #[] 43)
        have hb3' := hb2.alloc hb2.size (.cells #[] 43)
        have hrz' := hide hrz
        clear hrz hrl2
        go_wp2_with (first
          | (at_builtin; refine wpList_cpy Try.underlying27 hi'.out hz0'.out hz1'.out hz2'.out rfl (by decide) (by decide) encP_len encP_one rfl _ _ rfl w2.heap.size w2.heap.size rfl hG3 (Nat.le_refl _) (some ⟨g, 0, none⟩) c2 zs rfl (fun e => by cases e) hrz'.out (by omega) ?_; intro v3 w3 hown3 hg3;
              (obtain ⟨va, vm, vc, rfl⟩ := own_form hown3); (have kR3 := kR3'.kept hg3 (by simp; omega)); (have r0 : w3.cell? ⟨w.heap.size + 1 + 1, 0, none⟩ = some (.slice none 0 0) := kR3.cell 0); (have s0 := kR3.free 0);
              (have hb3 : Below w.heap.size w w3 := below_of_grown hb3' hg3 (by omega) hb3'.size)))
        have kF := kR3.set 0 (.slice va vm vc)
        have gF := grown_set (g := w.heap.size + 1 + 1) (World.grownBy.refl w3 _) (p := ⟨w.heap.size + 1 + 1, 0, none⟩) (.inl rfl) (.slice va vm vc)
        have hbF := below_of_grown hb3 gF (by omega) hb3.size
        have hownF := ow_kept hown3 gF (fun q e => by cases e; omega)
        generalize hF : World.setCell _ _ _ = wF at kF gF hbF hownF ⊢
        have y0 : wF.cell? ⟨w.heap.size + 1 + 1, 0, none⟩ = some (.slice va vm vc) := kF.cell 0
        refine bodyPost_ret (v := .agg #[.slice va vm vc]) (by simp [results, Try.f75, go_sem, y0] <;> rfl) rfl ?_
        exact ⟨_, zs, rfl, hbF, ow_mono hownF (by omega), by omega, fun hkk => by omega, hmz.out⟩
  · have hkx : k < xs.length := by omega
    have e1 : ((k : Int) == (xs.length : Int)) = false := by rw [beq_eq_false_iff_ne]; omega
    have hki : (k : Int) < (xs.length : Int) := by omega
    clear hat
    go_enter Try.func75, Try.ntmps75
    go_wp2_with (first
      | (at_builtin; refine wpList_cpy Try.underlying27 hi'.out hz0'.out hz1'.out hz2'.out rfl (by decide) (by decide) encP_len encP_one rfl _ _ rfl (w.heap.size + 1 + 1 + 1) (w.heap.size + 1 + 1 + 1) rfl hG (Nat.le_refl _) A c xs rfl hA'.out hr0 (by omega) ?_; intro v1 w1 hown1 hg1;
          (have kS1 := kS.kept hg1 (by simp)); (have kR1 := kR.kept hg1 (by simp)); (have hb1 : Below w.heap.size w w1 := below_of_grown hb0 hg1 (by omega) hb0.size); (have hz1s : w.heap.size + 1 + 1 + 1 + 1 ≤ w1.heap.size := (by have := hg1.size; have := hsz0'.out; omega));
          (have cS0 : w1.cell? ⟨w.heap.size + 1, 0, none⟩ = some (.bool sl) := kS1.cell 0); (have cS1 : w1.cell? ⟨w.heap.size + 1, 1, none⟩ = some (.string sd) := kS1.cell 1);
          clear hG hr0 kP; (obtain ⟨A1, c1, rfl, hL1, hblk1⟩ := ow_open (by omega) encP_len hown1); (obtain ⟨g, arr, rfl, hge, hB, harr⟩ := hblk1.resolve_left (by rintro rfl; simp at hkx)); (have hcap1 := hL1.cap); (have hmax1 := hL1.max);
          (have e0 : w1.cell? ⟨g, k * 2, none⟩ = some (arr[k * 2]'(by omega)) := (hB.cell _).trans (Array.getElem?_eq_getElem (by omega))); (have e2 : w1.cell? ⟨g, k * 2 + 1, none⟩ = some (arr[k * 2 + 1]'(by omega)) := (hB.cell _).trans (Array.getElem?_eq_getElem (by omega))); (have f0 := hB.free (k * 2)); (have f1 := hB.free (k * 2 + 1)); (have hgl1 := hB.lt)))
    have g1 := grown_set (g := g) (World.grownBy.refl w1 _) (p := ⟨g, k * 2, none⟩) (.inl rfl) (.bool sl)
    have g2 := grown_set g1 (p := ⟨g, k * 2 + 1, none⟩) (.inl rfl) (.string sd)
    have hBs := (hB.set (k * 2) (.bool sl)).set (k * 2 + 1) (.string sd)
    have hrl2 := Rl.store (x := ⟨sl, sd⟩) (w' := (w1.setCell ⟨g, k * 2, none⟩ (.bool sl)).setCell ⟨g, k * 2 + 1, none⟩ (.string sd)) encP_len hL1.rl hkx
      (fun o u ho hu => by
        rw [hBs.cell]
        rw [hB.cell] at hu
        rw [Array.getElem?_setIfInBounds_ne (by omega), Array.getElem?_setIfInBounds_ne (by omega)]
        exact hu)
      (fun j u hu => by
        rw [hBs.cell, Nat.zero_add]
        match j, hu with
        | 0, hu =>
          rw [Array.getElem?_setIfInBounds_ne (by omega)]
          exact (Array.getElem?_setIfInBounds_self_of_lt (show k * 2 < arr.size by omega)).trans hu
        | 1, hu =>
          rw [Array.getElem?_setIfInBounds_self_of_lt (by simp; omega)]
          exact hu)
    have kR2 := kR1.kept g2 (by simp; omega)
    have hb2 := below_of_grown hb1 g2 (by omega) hb1.size
    have hgl := hBs.lt
    have hzw2 := hb2.size
    have hmem : Hid (∀ y ∈ xs.set k ⟨sl, sd⟩, y ∈ xs ∨ y = ⟨sl, sd⟩) := fun y hy => List.mem_or_eq_of_mem_set hy
    have hat0 : xs.length ≤ (xs.set k ⟨sl, sd⟩).length := by simp
    have hlen' : (xs.set k ⟨sl, sd⟩).length ≤ xs.length := by simp
    have hcap2 : (xs.set k ⟨sl, sd⟩).length ≤ c1 := by simpa using hcap1
    clear hown1 hL1 hblk1 hB hBs g1 g2 e0 e2 f0 f1 cS0 cS1 kS1 kR1 hb1 hg1 hcap1
    generalize (xs.set k ⟨sl, sd⟩) = ys at hmem hlen' hcap2 hrl2 hat0 ⊢
    generalize (w1.setCell ⟨g, k * 2, none⟩ (.bool sl)).setCell ⟨g, k * 2 + 1, none⟩ (.string sd) = w2 at hrl2 kR2 hb2 hgl hzw2 ⊢
    go_loop [7] (fun u => ∃ m : Nat, m ≤ ys.length ∧ u = .slice (some ⟨g, 0, none⟩) m c1) (fun u => lenV u)
    case atStart => exact ⟨_, hat0, rfl⟩
    case round =>
      obtain ⟨m, hm, rfl⟩ := hrel
      by_cases hm0 : 0 < m
      · obtain ⟨q, hq⟩ : ∃ q, m = q + 1 := ⟨m - 1, by omega⟩
        obtain ⟨b, off, hA2, c0, cz⟩ := hrl2.slot (k := q) (by omega)
        obtain ⟨rfl, rfl⟩ : g = b ∧ 0 = off := by simpa using hA2
        rw [Nat.zero_add] at c0 cz
        have hm1 : (0 : Int) < (m : Int) := by omega
        have hm2 : (1 : Int) ≤ (m : Int) := by omega
        have hm3 : ((m : Int) - 1).toNat = q := by omega
        have hmc : (m : Int) ≤ (c1 : Int) := by omega
        generalize ys[q]'(by omega) = z at c0 cz
        obtain ⟨zl, zd⟩ := z
        simp only at c0 cz
        clear cz hA2
        cases zl
        · have hmn : m - 1 ≤ ys.length := by omega
          have hms : m - 1 < m := by omega
          clear hq
          go_wp2_with fail
          go_round
          case rel => exact ⟨q, by omega, by first | rfl | go_num⟩
          case measure => simp [lenV] <;> omega
        · clear hq
          obtain ⟨zs, hz⟩ : ∃ zs : List Sl, zs = ys.take m := ⟨_, rfl⟩
          have hrz : Rl encP 2 (w2.alloc (.cells #[] 43)) (some ⟨g, 0, none⟩) zs := by rw [hz]; exact (hrl2.take m).alloc _
          have hmz : Hid (∀ y ∈ zs, y ∈ xs ∨ y = ⟨sl, sd⟩) := fun y hy => hmem.out y (by rw [hz] at hy; exact List.mem_of_mem_take hy)
          have hzl : m = zs.length := by rw [hz, List.length_take]; omega
          clear hz hmem
          obtain rfl := hzl
          have hkl := kR2.lt
          have hG3 := Blk.new w2 43 #[]
          have kR3' := kR2.alloc (.cells #[] 43)
          have hb3' := hb2.alloc hb2.size (.cells #[] 43)
          have hrz' := hide hrz
          clear hrz hrl2
          go_wp2_with (first
            | (at_builtin; refine wpList_cpy Try.underlying27 hi'.out hz0'.out hz1'.out hz2'.out rfl (by decide) (by decide) encP_len encP_one rfl _ _ rfl w2.heap.size w2.heap.size rfl hG3 (Nat.le_refl _) (some ⟨g, 0, none⟩) c1 zs rfl (fun e => by cases e) hrz'.out (by omega) ?_; intro v3 w3 hown3 hg3;
                (obtain ⟨va, vm, vc, rfl⟩ := own_form hown3); (have kR3 := kR3'.kept hg3 (by simp; omega)); (have r0 : w3.cell? ⟨w.heap.size + 1 + 1, 0, none⟩ = some (.slice none 0 0) := kR3.cell 0); (have s0 := kR3.free 0);
                (have hb3 : Below w.heap.size w w3 := below_of_grown hb3' hg3 (by omega) hb3'.size)))
          have kF := kR3.set 0 (.slice va vm vc)
          have gF := grown_set (g := w.heap.size + 1 + 1) (World.grownBy.refl w3 _) (p := ⟨w.heap.size + 1 + 1, 0, none⟩) (.inl rfl) (.slice va vm vc)
          have hbF := below_of_grown hb3 gF (by omega) hb3.size
          have hownF := ow_kept hown3 gF (fun q e => by cases e; omega)
          generalize hF : World.setCell _ _ _ = wF at kF gF hbF hownF ⊢
          have y0 : wF.cell? ⟨w.heap.size + 1 + 1, 0, none⟩ = some (.slice va vm vc) := kF.cell 0
          refine bodyPost_ret (v := .agg #[.slice va vm vc]) (by simp [results, Try.f75, go_sem, y0] <;> rfl) rfl ?_
          exact ⟨_, zs, rfl, hbF, ow_mono hownF (by omega), by omega, fun hkk => by omega, hmz.out⟩
      · have hm1 : ¬ ((0 : Int) < (m : Int)) := by omega
        obtain ⟨zs, hz⟩ : ∃ zs : List Sl, zs = ys.take m := ⟨_, rfl⟩
        have hrz : Rl encP 2 (w2.alloc (.cells #[] 43)) (some ⟨g, 0, none⟩) zs := by rw [hz]; exact (hrl2.take m).alloc _
        have hmz : Hid (∀ y ∈ zs, y ∈ xs ∨ y = ⟨sl, sd⟩) := fun y hy => hmem.out y (by rw [hz] at hy; exact List.mem_of_mem_take hy)
        have hzl : m = zs.length := by rw [hz, List.length_take]; omega
        clear hz hmem
        obtain rfl := hzl
        have hkl := kR2.lt
        have hG3 := Blk.new w2 43 #[]
        have kR3' := kR2.alloc (.cells #[] 43)
        have hb3' := hb2.alloc hb2.size (.cells #[] 43)
        have hrz' := hide hrz
        clear hrz hrl2
        go_wp2_with (first
          | (at_builtin; refine wpList_cpy Try.underlying27 hi'.out hz0'.out hz1'.out hz2'.out rfl (by decide) (by decide) encP_len encP_one rfl _ _ rfl w2.heap.size w2.heap.size rfl hG3 (Nat.le_refl _) (some ⟨g, 0, none⟩) c1 zs rfl (fun e => by cases e) hrz'.out (by omega) ?_; intro v3 w3 hown3 hg3;
              (obtain ⟨va, vm, vc, rfl⟩ := own_form hown3); (have kR3 := kR3'.kept hg3 (by simp; omega)); (have r0 : w3.cell? ⟨w.heap.size + 1 + 1, 0, none⟩ = some (.slice none 0 0) := kR3.cell 0); (have s0 := kR3.free 0);
              (have hb3 : Below w.heap.size w w3 := below_of_grown hb3' hg3 (by omega) hb3'.size)))
        have kF := kR3.set 0 (.slice va vm vc)
        have gF := grown_set (g := w.heap.size + 1 + 1) (World.grownBy.refl w3 _) (p := ⟨w.heap.size + 1 + 1, 0, none⟩) (.inl rfl) (.slice va vm vc)
        have hbF := below_of_grown hb3 gF (by omega) hb3.size
        have hownF := ow_kept hown3 gF (fun q e => by cases e; omega)
        generalize hF : World.setCell _ _ _ = wF at kF gF hbF hownF ⊢
        have y0 : wF.cell? ⟨w.heap.size + 1 + 1, 0, none⟩ = some (.slice va vm vc) := kF.cell 0
        refine bodyPost_ret (v := .agg #[.slice va vm vc]) (by simp [results, Try.f75, go_sem, y0] <;> rfl) rfl ?_
        exact ⟨_, zs, rfl, hbF, ow_mono hownF (by omega), by omega, fun hkk => by omega, hmz.out⟩

end Go.Proofs.Ytnhkpigakbiddaa
