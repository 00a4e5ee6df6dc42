/- Texts of this claim, one behind the other: part 3. -/
import Derived.Test.YtegnedpikpfjfaaU2ShapeOfWord
import Derived.Outline
import Derived.WalkLawsBesides
import Derived.WalkSpells
import Derived.BigQuiet
import Derived.Deep.QuietTactic
import Derived.Deep.RegionHeld3
import Derived.Deep.RegionWith
import Derived.Deep.DeepCutAuto
import Derived.Deep.CutBlock
import Derived.Deep.DrawnRows
import Derived.StillTail
import Derived.OrdersHeld
import Derived.Laws.AppendOwn
/- Cells moved, moved to their corner, the neighbours of a cell: the program. -/
namespace Go.Proofs.Ytegnedpikpfjfaa
open Go.RowKit
set_option linter.unusedVariables false
attribute [local go_sem ↓] Go.wp_at_zero Go.wp_at_succ
set_option maxHeartbeats 1600000 in
theorem corner_k (A : Option Addr) (n c : Nat) (xs : List C) (w : World) (hr : Rd w A (vC xs)) (hl : xs.length = n) (hn1 : 1 ≤ n) (hn : n ≤ 21) (hs : ∀ d ∈ xs, small d) :
    Calls Try.prog 14 #[.slice A n c] w (RetS w 29 2 (vC (cornI xs))) := by
  have h0 : 0 < xs.length := by omega
  have hsm := minC_small h0 hs
  have hms : ∀ k, k ≤ n → (-1000 ≤ minTo (·.1) xs k ∧ minTo (·.1) xs k ≤ 1000) ∧ (-1000 ≤ minTo (·.2) xs k ∧ minTo (·.2) xs k ≤ 1000) := by
    intro k hk
    obtain ⟨a, ha, e1⟩ := minTo_at (·.1) xs h0 k (by omega)
    obtain ⟨b, hb, e2⟩ := minTo_at (·.2) xs h0 k (by omega)
    have h1 := hs a ha
    have h2 := hs b hb
    unfold small at h1 h2
    rw [e1, e2]
    exact ⟨h1.1, h2.2⟩
  have hV : cornI xs = sortC (mv xs (-(minTo (·.1) xs n)) (-(minTo (·.2) xs n))) := by unfold cornI minC; rw [hl]
  have HV := Lib.hid hV
  have HL := Lib.hid hl
  have HS := Lib.hid hs
  have HMS := Lib.hid hms
  have HR := Lib.hid hr
  obtain ⟨g0, o0, hA, hg0, z1, z2⟩ := RdC.at_ hr h0
  subst hA
  obtain ⟨u, hu⟩ : ∃ u, xs[0].1 = u := ⟨_, rfl⟩
  obtain ⟨v, hv⟩ : ∃ v, xs[0].2 = v := ⟨_, rfl⟩
  rw [hu] at z1
  rw [hv] at z2
  simp only [Nat.zero_mul, Nat.add_zero] at z1 z2
  have H1 : Hid (minTo (·.1) xs 0 = u) := by show (xs.getD 0 default).1 = u; rw [getD_in xs h0, hu]
  have H2 : Hid (minTo (·.2) xs 0 = v) := by show (xs.getD 0 default).2 = v; rw [getD_in xs h0, hv]
  have hn0 : (0 : Int) < (n : Int) := by omega
  have hn00 : 0 < n := by omega
  clear hl hs hms hr hV hu hv hsm
  go_enter Try.func14, Try.ntmps14
  go_wp2_with fail
  (refine wp_region_below (by kernel_rfl) (by kernel_rfl) ?_; (repeat (first | go_big_quiet_skip | (refine quietV (v := ?_) (by rfl) rfl (fun w' hbw => ?_) ?_; rotate_left; ((try dsimp only at hbw); have hbc := (bcell hbw).1; have hbf := (bcell hbw).2; go_simp; first | done | with_reducible rfl | fail); simp only [List.setIfInBounds_toArray, List.set_cons_zero, List.set_cons_succ]))); refine wpQuiet_nil ?_; intro wq hbq)
  clear z1 z2
  go_wp2_with fail
  go_loopw [17, 3, 4] (fun e17 e3 e4 wr => ∃ (k : Nat) (px py : Int), k ≤ n ∧ e17 = .int .i64 k ∧ e3 = .int .i64 px ∧ e4 = .int .i64 py ∧ minTo (·.1) xs k = px ∧ minTo (·.2) xs k = py ∧ Below w.heap.size w wr) (fun e17 _ _ _ => n - (intOf e17).toNat)
  case atStart => exact ⟨0, u, v, Nat.zero_le _, rfl, rfl, rfl, H1.out, H2.out, hbq⟩
  case round =>
    obtain ⟨k, px, py, hk, rfl, rfl, rfl, hpx, hpy, hb⟩ := hrel
    have HPX := Lib.hid hpx
    have HPY := Lib.hid hpy
    clear hpx hpy
    by_cases hlt : k < n
    · have hkl : k < xs.length := by rw [HL.out]; exact hlt
      have hk0 : (0 : Int) ≤ (k : Int) := by omega
      have hk1 : (k : Int) < (n : Int) := by omega
      obtain ⟨g, off, he, hg, d1, d2⟩ := RdC.at_ (HR.out.below hb) hkl
      simp only [Option.some.injEq, Addr.mk.injEq, and_true] at he
      obtain ⟨rfl, rfl⟩ := he
      obtain ⟨p, hp⟩ : ∃ p, xs[k].1 = p := ⟨_, rfl⟩
      obtain ⟨q, hq⟩ : ∃ q, xs[k].2 = q := ⟨_, rfl⟩
      rw [hp] at d1
      rw [hq] at d2
      have S1 : Hid (minTo (·.1) xs (k + 1) = if p < px then p else px) := by show minTo (·.1) xs (k + 1) = _; unfold minTo; rw [getD_in xs hkl, hp, HPX.out]
      have S2 : Hid (minTo (·.2) xs (k + 1) = if q < py then q else py) := by show minTo (·.2) xs (k + 1) = _; unfold minTo; rw [getD_in xs hkl, hq, HPY.out]
      clear hp hq
      by_cases h1 : p < px
      · by_cases h2 : q < py
        · have T1 : Hid (minTo (·.1) xs (k + 1) = p) := by show _ = _; rw [S1.out]; exact if_pos h1
          have T2 : Hid (minTo (·.2) xs (k + 1) = q) := by show _ = _; rw [S2.out]; exact if_pos h2
          go_wp2_with fail
          (refine wp_region_below (by kernel_rfl) (by kernel_rfl) ?_; (repeat (first | go_big_quiet_skip | (refine quietV (v := ?_) (by rfl) rfl (fun w' hbw => ?_) ?_; rotate_left; ((try dsimp only at hbw); have hbc := (bcell hbw).1; have hbf := (bcell hbw).2; go_simp; first | done | with_reducible rfl | fail); simp only [List.setIfInBounds_toArray, List.set_cons_zero, List.set_cons_succ]))); refine wpQuiet_nil ?_; intro wq hbq)
          go_wp2_with fail
          exact ⟨⟨k + 1, p, q, by omega, by go_num, by first | rfl | (simp <;> omega), by first | rfl | (simp <;> omega), T1.out, T2.out, bel_trans (bel_alloc hb _) hbq⟩, by simp [intOf]; omega⟩
        · have T1 : Hid (minTo (·.1) xs (k + 1) = p) := by show _ = _; rw [S1.out]; exact if_pos h1
          have T2 : Hid (minTo (·.2) xs (k + 1) = py) := by show _ = _; rw [S2.out]; exact if_neg h2
          go_wp2_with fail
          (refine wp_region_below (by kernel_rfl) (by kernel_rfl) ?_; (repeat (first | go_big_quiet_skip | (refine quietV (v := ?_) (by rfl) rfl (fun w' hbw => ?_) ?_; rotate_left; ((try dsimp only at hbw); have hbc := (bcell hbw).1; have hbf := (bcell hbw).2; go_simp; first | done | with_reducible rfl | fail); simp only [List.setIfInBounds_toArray, List.set_cons_zero, List.set_cons_succ]))); refine wpQuiet_nil ?_; intro wq hbq)
          go_wp2_with fail
          exact ⟨⟨k + 1, p, py, by omega, by go_num, by first | rfl | (simp <;> omega), by first | rfl | (simp <;> omega), T1.out, T2.out, bel_trans (bel_alloc hb _) hbq⟩, by simp [intOf]; omega⟩
      · by_cases h2 : q < py
        · have T1 : Hid (minTo (·.1) xs (k + 1) = px) := by show _ = _; rw [S1.out]; exact if_neg h1
          have T2 : Hid (minTo (·.2) xs (k + 1) = q) := by show _ = _; rw [S2.out]; exact if_pos h2
          go_wp2_with fail
          (refine wp_region_below (by kernel_rfl) (by kernel_rfl) ?_; (repeat (first | go_big_quiet_skip | (refine quietV (v := ?_) (by rfl) rfl (fun w' hbw => ?_) ?_; rotate_left; ((try dsimp only at hbw); have hbc := (bcell hbw).1; have hbf := (bcell hbw).2; go_simp; first | done | with_reducible rfl | fail); simp only [List.setIfInBounds_toArray, List.set_cons_zero, List.set_cons_succ]))); refine wpQuiet_nil ?_; intro wq hbq)
          go_wp2_with fail
          exact ⟨⟨k + 1, px, q, by omega, by go_num, by first | rfl | (simp <;> omega), by first | rfl | (simp <;> omega), T1.out, T2.out, bel_trans (bel_alloc hb _) hbq⟩, by simp [intOf]; omega⟩
        · have T1 : Hid (minTo (·.1) xs (k + 1) = px) := by show _ = _; rw [S1.out]; exact if_neg h1
          have T2 : Hid (minTo (·.2) xs (k + 1) = py) := by show _ = _; rw [S2.out]; exact if_neg h2
          go_wp2_with fail
          (refine wp_region_below (by kernel_rfl) (by kernel_rfl) ?_; (repeat (first | go_big_quiet_skip | (refine quietV (v := ?_) (by rfl) rfl (fun w' hbw => ?_) ?_; rotate_left; ((try dsimp only at hbw); have hbc := (bcell hbw).1; have hbf := (bcell hbw).2; go_simp; first | done | with_reducible rfl | fail); simp only [List.setIfInBounds_toArray, List.set_cons_zero, List.set_cons_succ]))); refine wpQuiet_nil ?_; intro wq hbq)
          go_wp2_with fail
          exact ⟨⟨k + 1, px, py, by omega, by go_num, by first | rfl | (simp <;> omega), by first | rfl | (simp <;> omega), T1.out, T2.out, bel_trans (bel_alloc hb _) hbq⟩, by simp [intOf]; omega⟩
    · obtain rfl : k = n := by omega
      have hk1 : ¬ (k : Int) < (k : Int) := by omega
      have hms := HMS.out k (Nat.le_refl _)
      rw [HPX.out, HPY.out] at hms
      obtain ⟨⟨q1, q2⟩, q3, q4⟩ := hms
      have e1 : IntKind.i64.wrap (-px) = -px := Go.IntWalk.i64_in _ (by omega)
      have e2 : IntKind.i64.wrap (-py) = -py := Go.IntWalk.i64_in _ (by omega)
      go_wp2_with fail
      refine (moved_i _ k c xs (-px) (-py) _ (HR.out.below hb) HL.out (by omega) HS.out (by omega) (by omega)).mono ?_
      rintro e w1 ⟨D, m, cD, rfl, ho, hb1⟩
      have hm : m = k := by have := own_len ho; rw [vC_length, mv_len, HL.out] at this; omega
      subst hm
      have HO := Lib.hid ho
      clear ho
      go_wp2_with fail
      refine (SortCells_k D m cD _ _ (Rd.of_own HO.out) (by rw [mv_len]; exact HL.out) hn1 hn).mono ?_
      rintro e w2 ⟨E, m2, cE, rfl, ho2, hb2⟩
      rw [← HPX.out, ← HPY.out, ← HV.out] at ho2
      have HO2 := Lib.hid (own_base (base' := w.heap.size) ho2 (by have := hb.size; have := hb1.size; omega))
      clear ho2
      go_wp2_with fail
      go_ret
      exact ⟨_, _, _, rfl, HO2.out, bel_trans (bel_trans hb hb1) hb2⟩
end Go.Proofs.Ytegnedpikpfjfaa

/- A region that draws its order: operations that read and quiet calls, and a chain of operations that make or write memory. The quiet ones may be taken first. -/
namespace Go.Proofs.Ytegnedpikpfjfaa
open Go.RowKit
/-- w' is w with more memory. -/
abbrev Ext (w w' : World) : Prop := Below w.heap.size w w'
section
variable {P : Program} {ops : Array Oper} {md : Region.Mode} {C : World → Prop} {Q : Exit → Act → World → Prop}
/-- In every world of the class o yields v and leaves that world, with more memory at most. -/
def Qt (P : Program) (ops : Array Oper) (C : World → Prop) (o : Oper) (v : Value) (a : Act) : Prop :=
  (Region.wanted o (yielded ops a.tmps) = true ∧ ∀ w, C w → o.quietAt P a (Ext w) w v) ∨ (Region.wanted o (yielded ops a.tmps) = false ∧ v = undef)
theorem Qt.same {o : Oper} {v : Value} {a a' : Act} (hy : Qt P ops C o v a) (he : execOp a'.eval o = execOp a.eval o)
    (hw : Region.wanted o (yielded ops a'.tmps) = Region.wanted o (yielded ops a.tmps)) : Qt P ops C o v a' := by
  unfold Qt Oper.quietAt at *
  rw [he, hw]
  exact hy
theorem Qt.wpOp {i : Nat} {o : Oper} {v : Value} {a : Act} {w : World} (hi : ops[i]? = some o) (hC : C w) (hy : Qt P ops C o v a) {K : Act → World → Prop} (h : ∀ w', Ext w w' → K (a.put o.dst v) w') : wpOp P ops Q i K a w := by
  unfold Go.wpOp
  simp only [hi]
  rcases hy with ⟨hw, hv⟩ | ⟨hw, rfl⟩
  · rw [if_pos hw]
    refine .inl ?_
    have h3 := hv w hC
    unfold Oper.quietAt at h3
    unfold Oper.wp
    generalize (execOp a.eval o).run P w = r at *
    cases r with
    | ok n w' =>
      cases n <;> simp only [Oper.quietUpon] at h3 <;> simp only [Oper.upon]
      case value u => rw [h3.1, h3.2]; exact h _ (Below.refl _ _)
      case skip => rw [h3.1, ← h3.2]; exact h _ (Below.refl _ _)
      case enter f args =>
        rw [h3.1]
        exact h3.2.mono fun e w'' he => by obtain ⟨he, hw''⟩ := he; subst he; exact h _ hw''
    | halt x w' => simp only [Oper.quietUpon] at h3
  · rw [if_neg (by rw [hw]; simp)]
    exact h _ (Below.refl _ _)
theorem wpOp_putQt {j : Nat} {oi oj : Oper} {v : Value} (hj : ops[j]? = some oj) (hap : oi.apart ops oj = true)
    (hsi : ∀ cs b, oi.op ≠ .select cs b) (hsj : ∀ cs b, oj.op ≠ .select cs b) (hQ : ∀ c a w, Q (.panic c) (a.put oi.dst v) w → Q (.panic c) a w) {K : Act → World → Prop} {a : Act} {w : World}
    (hy : Qt P ops C oi v a) (h : wpOp P ops Q j K (a.put oi.dst v) w) : wpOp P ops Q j (fun a' w' => Qt P ops C oi v a' ∧ K (a'.put oi.dst v) w') a w := by
  obtain ⟨h1, h2, h3⟩ := Oper.apart_spec hap
  have keep : ∀ (b : Act), Qt P ops C oi v b → ∀ u, Qt P ops C oi v (b.put oj.dst u) := fun b hb u => hb.same (execOp_put oi hsi b oj.dst u h3) (wanted_put oi b oj.dst u h3)
  have swap : ∀ (b : Act) u, Qt P ops C oi v b → K ((b.put oi.dst v).put oj.dst u) = K ((b.put oj.dst u).put oi.dst v) := fun b u _ => by rw [Act.put_comm b v u h2]
  unfold wpOp at *
  simp only [hj] at *
  rw [wanted_put oj a oi.dst v h1] at h
  by_cases hw : Region.wanted oj (yielded ops a.tmps) = true
  · rw [if_pos hw] at h ⊢
    rcases h with h | ⟨hasks, hlets⟩
    · refine .inl ?_
      unfold Oper.wp at *
      rw [execOp_put oj hsj a oi.dst v h1] at h
      generalize (execOp a.eval oj).run P w = r at *
      cases r with
      | ok n w' =>
        cases n <;> simp only [Oper.upon] at h ⊢
        case value u => exact ⟨keep a hy u, by rw [← swap a u hy]; exact h⟩
        case skip => exact ⟨keep a hy _, by rw [← swap a _ hy]; exact h⟩
        case defer d =>
          have hyd : Qt P ops C oi v { a with defers := d :: a.defers } := hy.same rfl rfl
          refine ⟨keep _ hyd _, ?_⟩
          rw [← swap _ _ hyd, ← Act.put_defers]
          exact h
        case enter f args =>
          refine Calls.mono h fun e w'' he => ?_
          cases e with
          | returned u => exact ⟨keep a hy u, by rw [← swap a u hy]; exact he⟩
          | panicked c => exact hQ _ _ _ he
          | outgrown => exact he
        case row row args => exact Rows.mono h fun u w'' he => ⟨keep a hy u, by rw [← swap a u hy]; exact he⟩
      | halt x w' =>
        cases x <;> simp only [Oper.upon] at h ⊢
        case panic u => exact hQ _ _ _ h
    · exact .inr ⟨by unfold Oper.asks at *; rw [execOp_put oj hsj a oi.dst v h1] at hasks; exact hasks, hlets⟩
  · rw [if_neg hw] at h ⊢
    exact ⟨keep a hy _, by rw [← swap a _ hy]; exact h⟩

/-- Whatever order is picked; more memory may come at any time; the class holds throughout. -/
def wpRg (P : Program) (md : Region.Mode) (ops : Array Oper) (C : World → Prop) (Q : Exit → Act → World → Prop) (f : Nat) (listed : Array Bool) (a : Act) (w : World) : Prop :=
  match f with
  | 0 => Region.ready md ops listed = [] ∧ ∀ w', C w' → Ext w w' → Q .normal a w'
  | f + 1 => (Region.ready md ops listed = [] → ∀ w', C w' → Ext w w' → Q .normal a w') ∧
    ∀ i ∈ Region.ready md ops listed, ∀ w', C w' → Ext w w' → wpOp P ops Q i (fun a' w'' => C w'' ∧ wpRg P md ops C Q f (listed.setIfInBounds i true) a' w'') a w'
theorem wpRg_ext {f : Nat} {listed : Array Bool} {a : Act} {w w1 : World} (h : wpRg P md ops C Q f listed a w) (he : Ext w w1) : wpRg P md ops C Q f listed a w1 := by
  cases f with
  | zero => exact ⟨h.1, fun w' hc h1 => h.2 w' hc (bel_trans he h1)⟩
  | succ f => exact ⟨fun hr w' hc h1 => h.1 hr w' hc (bel_trans he h1), fun i hi w' hc h1 => h.2 i hi w' hc (bel_trans he h1)⟩
theorem wpAny_of_wpRg (f : Nat) : ∀ (listed : Array Bool) (a : Act) (w : World), C w → wpRg P md ops C Q f listed a w → wpAny P md ops Q f listed a w := by
  induction f with
  | zero => intro listed a w hc h; exact ⟨h.1, h.2 w hc (Below.refl _ _)⟩
  | succ f ih =>
    intro listed a w hc h
    exact ⟨fun hr => h.1 hr w hc (Below.refl _ _), fun i hi => wpOp_mono (fun a' w' h' => ih _ a' w' h'.1 h'.2) (h.2 i hi w hc (Below.refl _ _))⟩
theorem wpRg_first {i : Nat} {oi : Oper} {v : Value} (hCE : ∀ w w', C w → Ext w w' → C w') (hi : ops[i]? = some oi) (hsel : ∀ (j : Nat) (o : Oper) cs b, ops[j]? = some o → o.op ≠ .select cs b)
    (hQ : ∀ c a w, Q (.panic c) (a.put oi.dst v) w → Q (.panic c) a w) (f : Nat) :
    ∀ (listed : Array Bool) (a : Act) (w : World),
      (∀ j oj, ops[j]? = some oj → j ≠ i → listed.getD j true = false → (∀ e ∈ oj.after, Region.binds md e = true → e.on ≠ i) → oi.apart ops oj = true) →
      i ∈ Region.ready md ops listed → Qt P ops C oi v a →
      wpRg P md ops C Q f (listed.setIfInBounds i true) (a.put oi.dst v) w → wpRg P md ops C Q (f + 1) listed a w := by
  induction f with
  | zero =>
    intro listed a w _ hr hy H
    refine ⟨fun e => absurd e (List.ne_nil_of_mem hr), fun j hj w' hc he => ?_⟩
    rcases Decidable.em (j = i) with e | e
    · subst e
      exact hy.wpOp hi hc fun w'' h2 => ⟨hCE _ _ hc h2, wpRg_ext H (bel_trans he h2)⟩
    · have := ready_mono hj e
      rw [H.1] at this
      cases this
  | succ f ih =>
    intro listed a w hfree hr hy H
    refine ⟨fun e => absurd e (List.ne_nil_of_mem hr), fun j hj w' hc he => ?_⟩
    rcases Decidable.em (j = i) with e | e
    · subst e
      exact hy.wpOp hi hc fun w'' h2 => ⟨hCE _ _ hc h2, wpRg_ext H (bel_trans he h2)⟩
    · obtain ⟨hjun, oj, hoj, hall⟩ := mem_ready.1 hj
      have hnot : ∀ e ∈ oj.after, Region.binds md e = true → e.on ≠ i := by
        intro e he hb heq
        have h1 := hall e he hb
        rw [heq, getD_both (mem_ready.1 hr).1] at h1
        cases h1
      have h2 := wpOp_putQt hoj (hfree j oj hoj e hjun hnot) (fun cs b => hsel i oi cs b hi) (fun cs b => hsel j oj cs b hoj) hQ hy (H.2 j (ready_mono hj e) w' hc he)
      refine wpOp_mono (fun a' w'' h3 => ⟨h3.2.1, ?_⟩) h2
      refine ih (listed.setIfInBounds j true) a' w'' (fun k ok hk hki hun' hno => ?_) (ready_mono hr (Ne.symm e)) h3.1 ?_
      · refine hfree k ok hk hki ?_ hno
        rcases Decidable.em (j = k) with ejk | ejk
        · rw [← ejk]; exact hjun
        · rwa [getD_set_ne true ejk] at hun'
      · rw [Array.setIfInBounds_comm _ _ e]
        exact h3.2.2

/-- The walk: quiet operations. -/
def wpHead (P : Program) (ops : Array Oper) (C : World → Prop) (L : Act → Prop) : List Oper → Act → Prop
  | [], a => L a
  | o :: rest, a => ∃ v, Qt P ops C o v a ∧ wpHead P ops C L rest (a.put o.dst v)
/-- The walk: the others, one behind the other; more memory may come before each. -/
def wpTail (P : Program) (ops : Array Oper) (C : World → Prop) (Q : Exit → Act → World → Prop) : List Oper → Act → World → Prop
  | [], a, w => ∀ w', C w' → Ext w w' → Q .normal a w'
  | o :: rest, a, w => ∀ w', C w' → Ext w w' → Region.wanted o (yielded ops a.tmps) = true ∧ o.wp P a w' (fun a' w'' => C w'' ∧ wpTail P ops C Q rest a' w'') Q
theorem wpTail_drawn {l : List Oper} {a : Act} {w : World} (h : wpTail P ops C Q l a w) : wpTail P ops C Q l a { w with drawn := w.drawn + 1 } := by
  cases l with
  | nil => exact fun w' hc he => h w' hc ⟨he.os, he.tape, he.output, he.size, he.block⟩
  | cons o r => exact fun w' hc he => h w' hc ⟨he.os, he.tape, he.output, he.size, he.block⟩
theorem wpRg_of_tail (l : List Oper) : ∀ (k : Nat) (listed : Array Bool) (a : Act) (w : World), (∀ j, l[j]? = ops[k + j]?) → Region.seqB md ops l.length k listed = true → wpTail P ops C Q l a w → wpRg P md ops C Q l.length listed a w := by
  induction l with
  | nil => intro k listed a w _ hB h; exact ⟨by simpa [Region.seqB] using hB, h⟩
  | cons o l ih =>
    intro k listed a w hl hB h
    have h0 : ops[k]? = some o := by simpa using (hl 0).symm
    simp only [List.length_cons, Region.seqB, Bool.and_eq_true, decide_eq_true_eq] at hB
    refine ⟨fun e => (by rw [hB.1] at e; cases e), fun i hi w' hc he => ?_⟩
    obtain rfl : i = k := by rw [hB.1] at hi; simpa using hi
    obtain ⟨hw, h1⟩ := h w' hc he
    unfold wpOp
    simp only [h0]
    rw [if_pos hw]
    exact .inl (Oper.wp_mono (fun a' w'' h2 => ⟨h2.1, ih (i + 1) _ a' w'' (fun j => by have := hl (j + 1); simpa [Nat.add_assoc, Nat.add_comm 1 j] using this) hB.2 h2.2⟩) h1)
theorem wpRg_of_head {g n : Nat} {L : Act → Prop} {w : World} (hCE : ∀ w w', C w → Ext w w' → C w') (hsel : Region.noSelect ops = true) (hQ : ∀ (d : Option Tmp) v c a w, Q (.panic c) (a.put d v) w → Q (.panic c) a w)
    (hL : ∀ listed a, Region.seqB md ops g n listed = true → L a → wpRg P md ops C Q g listed a w) (l : List Oper) :
    ∀ (k : Nat) (listed : Array Bool) (a : Act), (∀ j, j < l.length → l[j]? = ops[k + j]?) → k + l.length = n → Region.lexHead md ops g l.length k listed = true → wpHead P ops C L l a → wpRg P md ops C Q (l.length + g) listed a w := by
  induction l with
  | nil =>
    intro k listed a _ hk hB h
    have e : k = n := by simpa using hk
    rw [e] at hB
    rw [List.length_nil, Nat.zero_add]
    exact hL _ _ (by simpa [Region.lexHead] using hB) h
  | cons o l ih =>
    intro k listed a hl hk hB h
    have h0 : ops[k]? = some o := by simpa using (hl 0 (by simp)).symm
    simp only [List.length_cons, Region.lexHead, Bool.and_eq_true] at hB hk
    have hr : k ∈ Region.ready md ops listed := by simpa using hB.1.1
    obtain ⟨v, hy, hK⟩ := h
    rw [List.length_cons, Nat.add_right_comm]
    refine wpRg_first hCE h0 (Region.noSelect_spec hsel) (hQ _ _) _ listed a w (Region.free_spec h0 hB.1.2) hr hy ?_
    refine ih (k + 1) _ _ (fun j hj => ?_) (by omega) hB.2 hK
    have := hl (j + 1) (by simp; omega)
    simpa [Nat.add_assoc, Nat.add_comm 1 j] using this
end
section
variable {P : Program} {C : World → Prop} {ops : Array Oper}
theorem wp_region_tail {id : Nat} {Q : Exit → Act → World → Prop} {a : Act} {w : World} {l : List Oper} (n : Nat) (hm : P.follows .mixedOrders = true) (hB : (Region.noSelect l.toArray && decide (n < l.length) && Region.lexHead .any l.toArray (l.length - n) n 0 (Array.replicate l.length false)) = true)
    (hQ : ∀ (d : Option Tmp) v c a w, Q (.panic c) (a.put d v) w → Q (.panic c) a w) (hC : C { w with drawn := w.drawn + 1 }) (hCE : ∀ w w', C w → Ext w w' → C w')
    (h : wpHead P l.toArray C (fun a' => wpTail P l.toArray C Q (l.drop n) a' w) (l.take n) a) : (Code.region id l.toArray true).wp P Q a w := by
  simp only [Bool.and_eq_true, decide_eq_true_eq] at hB
  obtain ⟨⟨hsel, hn⟩, hlex⟩ := hB
  have htl : (l.take n).length = n := by simp; omega
  have hdl : (l.drop n).length = l.length - n := by simp
  refine wp_region_any hm (wpAny_of_wpRg _ _ _ _ hC ?_)
  have H := wpRg_of_head (md := .any) (g := l.length - n) (n := n) (w := { w with drawn := w.drawn + 1 }) hCE hsel hQ (fun listed a' hs hL => by
    have h4 : wpTail P l.toArray C Q (l.drop n) a' { w with drawn := w.drawn + 1 } := wpTail_drawn hL
    have h3 := wpRg_of_tail (ops := l.toArray) (md := .any) (l.drop n) n listed a' { w with drawn := w.drawn + 1 } (fun j => by simp [List.getElem?_drop]) (by rw [hdl]; exact hs) h4
    rwa [hdl] at h3) (l.take n) 0 (Array.replicate l.length false) a (fun j hj => by rw [htl] at hj; simp [hj]) (by simpa using htl) (by rw [htl]; exact hlex) h
  rw [htl, show n + (l.length - n) = l.length by omega] at H
  simpa using H
theorem headV {L : Act → Prop} {o : Oper} {rest : List Oper} {ts : Array Value} {ds : List Deferred} {v : Value} {d : Nat} (hw : Region.wanted o (yielded ops ts) = true) (hd : o.dst = some d) (h1 : ∀ w', C w' → o.quietAt P { tmps := ts, defers := ds } (Ext w') w' v)
    (h2 : wpHead P ops C L rest { tmps := ts.setIfInBounds d v, defers := ds }) : wpHead P ops C L (o :: rest) { tmps := ts, defers := ds } :=
  ⟨v, .inl ⟨hw, h1⟩, by rw [hd]; exact h2⟩
theorem headSkip {L : Act → Prop} {o : Oper} {rest : List Oper} {ts : Array Value} {ds : List Deferred} {d : Nat} (hw : Region.wanted o (yielded ops ts) = false) (hd : o.dst = some d)
    (h2 : wpHead P ops C L rest { tmps := ts.setIfInBounds d undef, defers := ds }) : wpHead P ops C L (o :: rest) { tmps := ts, defers := ds } :=
  ⟨undef, .inr ⟨hw, rfl⟩, by rw [hd]; exact h2⟩
theorem tailV {Q : Exit → Act → World → Prop} {o : Oper} {rest : List Oper} {a : Act} {w : World} (hw : Region.wanted o (yielded ops a.tmps) = true) (h : ∀ w', C w' → Ext w w' → o.wp P a w' (fun a' w'' => C w'' ∧ wpTail P ops C Q rest a' w'') Q) : wpTail P ops C Q (o :: rest) a w :=
  fun w' hc he => ⟨hw, h w' hc he⟩
theorem tailK {Q : Exit → Act → World → Prop} {o : Oper} {rest : List Oper} {a : Act} {w : World} (hw : Region.wanted o (yielded ops a.tmps) = true)
    (h : ∀ w', C w' → Ext w w' → ∀ K : Act → World → Prop, (∀ a' w'', C w'' → wpTail P ops C Q rest a' w'' → K a' w'') → o.wp P a w' K Q) : wpTail P ops C Q (o :: rest) a w :=
  fun w' hc he => ⟨hw, h w' hc he _ fun _ _ h1 h2 => ⟨h1, h2⟩⟩
theorem wp_region_tailN {id : Nat} {Q : Exit → Act → World → Prop} {a : Act} {w : World} {l : List Oper} (n : Nat) (hm : P.follows .mixedOrders = true) (hB : (Region.noSelect l.toArray && decide (n < l.length) && Region.lexHead .any l.toArray (l.length - n) n 0 (Array.replicate l.length false)) = true)
    (hC : C { w with drawn := w.drawn + 1 }) (hCE : ∀ w w', C w → Ext w w' → C w')
    (h : wpHead P l.toArray C (fun a' => wpTail P l.toArray C (NoPanic Q) (l.drop n) a' w) (l.take n) a) : (Code.region id l.toArray true).wp P Q a w :=
  wp_region_noPanic (wp_region_tail n hm hB (fun _ _ _ _ _ h => h) hC hCE h)
/-- A call's contract in a quiet place. -/
theorem callsX {f : FuncId} {args : Array Value} {w' : World} {v : Value} (h : Calls P f args w' (Ret w' v)) : Calls P f args w' (fun e w'' => e = .returned v ∧ Ext w' w'') := h.mono fun _ _ h2 => ⟨h2.1, h2.2⟩
/-- The class for an append onto a row of the call's own: all else is as it was. -/
def Gr (w : World) (A : Option Addr) (w' : World) : Prop := w.grownBy w' (ob A)
theorem Gr.drawn (w : World) (A : Option Addr) : Gr w A { w with drawn := w.drawn + 1 } := ⟨rfl, rfl, rfl, Nat.le_refl _, fun _ _ _ => rfl⟩
theorem Gr.ext {w : World} {A : Option Addr} {w1 w2 : World} (h : Gr w A w1) (he : Ext w1 w2) : Gr w A w2 :=
  ⟨he.os.trans h.os, he.tape.trans h.tape, he.output.trans h.output, Nat.le_trans h.size he.size, fun k hk hne => (he.block k (Nat.lt_of_lt_of_le hk h.size)).trans (h.block k hk hne)⟩
theorem Gr.trans {w : World} {A : Option Addr} {w1 w2 : World} (h : Gr w A w1) (k : w1.grownBy w2 (ob A)) : Gr w A w2 :=
  ⟨k.os.trans h.os, k.tape.trans h.tape, k.output.trans h.output, Nat.le_trans h.size k.size, fun b hb hne => (k.block b (Nat.lt_of_lt_of_le hb h.size) hne).trans (h.block b hb hne)⟩
theorem Gr.cells {w w' : World} {A : Option Addr} (h : Gr w A w') : ∀ b o, b < w.heap.size → some b ≠ ob A → w'.cell? ⟨b, o, none⟩ = w.cell? ⟨b, o, none⟩ := fun b _ hb hne => World.cell?_of_block (h.block b hb hne)
/-- The class where nothing that was there is written. -/
def ExC (w w' : World) : Prop := Below w.heap.size w w'
theorem ExC.drawn (w : World) : ExC w { w with drawn := w.drawn + 1 } := ⟨rfl, rfl, rfl, Nat.le_refl _, fun _ _ => rfl⟩
theorem ExC.ext {w w1 w2 : World} (h : ExC w w1) (he : Ext w1 w2) : ExC w w2 := bel_trans h he
theorem ExC.cells {w w' : World} (h : ExC w w') : ∀ b o, b < w.heap.size → w'.cell? ⟨b, o, none⟩ = w.cell? ⟨b, o, none⟩ := (bcell h).1
theorem Gr.cell {w w' : World} {A : Option Addr} {b : Nat} (h : Gr w A w') (hb : b < w.heap.size) (hne : some b ≠ ob A) (o : Nat) : w'.cell? ⟨b, o, none⟩ = w.cell? ⟨b, o, none⟩ :=
  World.cell?_of_block (h.block b hb hne)
end
end Go.Proofs.Ytegnedpikpfjfaa

/- An append of cells by an operation taken alone. -/
namespace Go.Proofs.Ytegnedpikpfjfaa
open Go.RowKit
set_option linter.unusedVariables false
section
variable (w : World) {ops : Array Oper} {rest : List Oper} {o : Oper} {a : Act} {Q : Exit → Act → World → Prop}
theorem wpC (s x : Operand) {K : Act → World → Prop} (ho : o.op = .call { callee := .builtin .append, args := #[s, x], argTypes := #[22, 22] })
    (base : Nat) (A : Option Addr) (n c : Nat) (l : List C) (hs : a.eval s = .slice A n c) (hown : w.ownsRow base 29 2 (.slice A n c) n (vC l))
    (A2 : Option Addr) (m c2 : Nat) (l2 : List C) (hx : a.eval x = .slice A2 m c2) (hr : Rd w A2 (vC l2)) (hl : l2.length = m) (hb : n + m ≤ 1099511627776) (hbase : base ≤ w.heap.size)
    (h : ∀ A' c' w', w'.ownsRow base 29 2 (.slice A' (n + m) c') (n + m) (vC (l ++ l2)) → w.grownBy w' (ob A) → (ob A' = ob A ∨ ob A' = some w.heap.size) → K (a.put o.dst (.slice A' (n + m) c')) w') :
    o.wp Try.prog a w K Q := by
  obtain ⟨i0, hi, hz0, hz1, hz2⟩ := info_parts infoC
  refine wp_app w s x _ ho base _ i0 _ 2 16 Try.underlying22 hi hz0 hz1 hz2 rfl (by omega) A n c _ hs hown A2 m c2 _ hx hr (by rw [vC_length, hl]) (vC_one _) (by unfold maxLen; omega) (by omega) hbase ?_
  intro A' c' w' h1
  rw [← vC_append] at h1
  exact h A' c' w' h1
end
end Go.Proofs.Ytegnedpikpfjfaa

/- Cells moved to their corner: the reference. -/
namespace Go.Proofs.Ytegnedpikpfjfaa
open Go.RowKit
set_option linter.unusedVariables false
attribute [local go_sem ↓] Go.wp_at_zero Go.wp_at_succ

set_option maxHeartbeats 3200000 in
theorem l2Corner_s (A : Option Addr) (n c : Nat) (xs : List C) (w : World) (hr : Rd w A (vC xs)) (hl : xs.length = n) (hn : n ≤ 1048576) (hs : ∀ d ∈ xs, small d) :
    Calls Try.prog 10 #[.slice A n c] w (RetS w 29 2 (vC (cornS xs))) := by
  have hms : 0 < n → (-1000 ≤ minTo (·.1) xs n ∧ minTo (·.1) xs n ≤ 1000) ∧ (-1000 ≤ minTo (·.2) xs n ∧ minTo (·.2) xs n ≤ 1000) := by
    intro h0
    have := minC_small (by omega) hs
    unfold minC at this
    rwa [hl] at this
  have hV : ∀ px py, (n = 0 ∧ px = 0 ∧ py = 0 ∨ 0 < n ∧ px = minTo (·.1) xs n ∧ py = minTo (·.2) xs n) → mv xs (-px) (-py) = cornS xs := by
    intro px py h
    rcases h with ⟨h1, _, _⟩ | ⟨h1, h2, h3⟩
    · rw [List.eq_nil_of_length_eq_zero (hl.trans h1)]; rfl
    · unfold cornS minC; rw [hl, h2, h3]
  have HV := Lib.hid hV
  have HL := Lib.hid hl
  have HS := Lib.hid hs
  have HMS := Lib.hid hms
  have HR := Lib.hid hr
  have hini := own_new w 29 2 0 #[] rfl (by simp [maxLen]) (base := w.heap.size) (Nat.le_refl _)
  have HI0 := Lib.hid hini
  clear hini hl hs hms hr hV
  go_enter Try.func10, Try.ntmps10
  go_wp2
  go_loopw [4, 5, 6] (fun e4 e5 e6 wr => ∃ (k : Nat) (px py : Int), k ≤ n ∧ e4 = .int .i64 px ∧ e5 = .int .i64 py ∧ e6 = .int .i64 k ∧ (k = 0 ∧ px = 0 ∧ py = 0 ∨ 0 < k ∧ px = minTo (·.1) xs k ∧ py = minTo (·.2) xs k) ∧ Below (w.alloc (.cells #[] 29)).heap.size (w.alloc (.cells #[] 29)) wr) (fun _ _ e6 _ => n - (intOf e6).toNat)
  case atStart => exact ⟨0, 0, 0, Nat.zero_le _, rfl, rfl, rfl, .inl ⟨rfl, rfl, rfl⟩, Below.refl _ _⟩
  case round =>
    obtain ⟨k, px, py, hk, rfl, rfl, rfl, hp, hb⟩ := hrel
    have HP := Lib.hid hp
    clear hp
    have hbw : Below w.heap.size w wr := (by (repeat (first | with_reducible exact Below.refl _ _ | with_reducible assumption | with_reducible apply bel_alloc | with_reducible apply bel_drew | with_reducible apply bel_drewN | ((with_reducible refine bel_set ?_ ?_); rotate_left; (simp <;> omega)) | (with_reducible refine bel_trans ?_ (by with_reducible assumption)))))
    by_cases hlt : k < n
    · have hkl : k < xs.length := by rw [HL.out]; exact hlt
      have hk0 : (0 : Int) ≤ (k : Int) := by omega
      have hk1 : (k : Int) < (n : Int) := by omega
      obtain ⟨g, off, hA, hg, d1, d2⟩ := RdC.at_ (HR.out.below hbw) hkl
      subst hA
      obtain ⟨p, hp⟩ : ∃ p, xs[k].1 = p := ⟨_, rfl⟩
      obtain ⟨q, hq⟩ : ∃ q, xs[k].2 = q := ⟨_, rfl⟩
      rw [hp] at d1
      rw [hq] at d2
      have S1 : Hid (minTo (·.1) xs (k + 1) = if p < minTo (·.1) xs k then p else minTo (·.1) xs k) := by show minTo (·.1) xs (k + 1) = _; rw [minTo, getD_in xs hkl, hp]
      have S2 : Hid (minTo (·.2) xs (k + 1) = if q < minTo (·.2) xs k then q else minTo (·.2) xs k) := by show minTo (·.2) xs (k + 1) = _; rw [minTo, getD_in xs hkl, hq]
      by_cases hz : k = 0
      · have M0 : Hid (minTo (·.1) xs k = p ∧ minTo (·.2) xs k = q) := by
          show _ ∧ _
          subst hz
          exact ⟨by show (xs.getD 0 default).1 = p; rw [getD_in xs hkl, hp], by show (xs.getD 0 default).2 = q; rw [getD_in xs hkl, hq]⟩
        have e0 : ((k : Int) == 0) = true := by simp [hz]
        clear hz hp hq
        have T1 : Hid (minTo (·.1) xs (k + 1) = p) := by show _ = _; rw [S1.out]; rw [show minTo (·.1) xs k = p from M0.out.1]; exact ite_self _
        have T2 : Hid (minTo (·.2) xs (k + 1) = q) := by show _ = _; rw [S2.out]; rw [show minTo (·.2) xs k = q from M0.out.2]; exact ite_self _
        go_wp2_with fail
        exact ⟨⟨k + 1, p, q, by omega, rfl, rfl, by go_num, .inr ⟨by omega, T1.out.symm, T2.out.symm⟩, hb⟩, by simp [intOf]; omega⟩
      · have e0 : ((k : Int) == 0) = false := by simp; omega
        have hkz : ¬ k = 0 := hz
        have hpp : px = minTo (·.1) xs k ∧ py = minTo (·.2) xs k := by
          rcases HP.out with ⟨h1, _, _⟩ | ⟨_, h2, h3⟩
          · exact absurd h1 hz
          · exact ⟨h2, h3⟩
        have HPX := Lib.hid hpp.1
        have HPY := Lib.hid hpp.2
        clear hz hp hq hpp
        by_cases h1 : p < px
        · by_cases h2 : q < py
          · have T1 : Hid (minTo (·.1) xs (k + 1) = p) := by show _ = _; rw [S1.out, ← HPX.out]; exact if_pos h1
            have T2 : Hid (minTo (·.2) xs (k + 1) = q) := by show _ = _; rw [S2.out, ← HPY.out]; exact if_pos h2
            go_wp2_with fail
            exact ⟨⟨k + 1, p, q, by omega, rfl, rfl, by go_num, .inr ⟨by omega, T1.out.symm, T2.out.symm⟩, hb⟩, by simp [intOf]; omega⟩
          · have h2d : decide (q < py) = false := by simp; omega
            have T1 : Hid (minTo (·.1) xs (k + 1) = p) := by show _ = _; rw [S1.out, ← HPX.out]; exact if_pos h1
            have T2 : Hid (minTo (·.2) xs (k + 1) = py) := by show _ = _; rw [S2.out, ← HPY.out]; exact if_neg h2
            go_wp2_with fail
            exact ⟨⟨k + 1, p, py, by omega, rfl, rfl, by go_num, .inr ⟨by omega, T1.out.symm, T2.out.symm⟩, hb⟩, by simp [intOf]; omega⟩
        · have h1d : decide (p < px) = false := by simp; omega
          by_cases h2 : q < py
          · have T1 : Hid (minTo (·.1) xs (k + 1) = px) := by show _ = _; rw [S1.out, ← HPX.out]; exact if_neg h1
            have T2 : Hid (minTo (·.2) xs (k + 1) = q) := by show _ = _; rw [S2.out, ← HPY.out]; exact if_pos h2
            go_wp2_with fail
            exact ⟨⟨k + 1, px, q, by omega, rfl, rfl, by go_num, .inr ⟨by omega, T1.out.symm, T2.out.symm⟩, hb⟩, by simp [intOf]; omega⟩
          · have h2d : decide (q < py) = false := by simp; omega
            have T1 : Hid (minTo (·.1) xs (k + 1) = px) := by show _ = _; rw [S1.out, ← HPX.out]; exact if_neg h1
            have T2 : Hid (minTo (·.2) xs (k + 1) = py) := by show _ = _; rw [S2.out, ← HPY.out]; exact if_neg h2
            go_wp2_with fail
            exact ⟨⟨k + 1, px, py, by omega, rfl, rfl, by go_num, .inr ⟨by omega, T1.out.symm, T2.out.symm⟩, hb⟩, by simp [intOf]; omega⟩
    · obtain rfl : k = n := by omega
      have hk1 : ¬ (k : Int) < (k : Int) := by omega
      have hbnd : -1000 ≤ px ∧ px ≤ 1000 ∧ -1000 ≤ py ∧ py ≤ 1000 := by
        rcases HP.out with ⟨_, h1, h2⟩ | ⟨h0, h1, h2⟩
        · omega
        · have := HMS.out h0
          rw [← h1, ← h2] at this
          omega
      obtain ⟨q1, q2, q3, q4⟩ := hbnd
      have HVV := Lib.hid (HV.out px py HP.out)
      have HO0 := Lib.hid (own_keep HI0.out hb)
      clear hb
      go_wp2_with fail
      go_loopw [7, 3] (fun e7 e3 wr2 => ∃ (j cq : Nat) (D : Option Addr), j ≤ k ∧ e7 = .int .i64 j ∧ e3 = .slice D j cq ∧ wr2.ownsRow w.heap.size 29 2 (.slice D j cq) j (vC (mv (xs.take j) (-px) (-py))) ∧ Below w.heap.size w wr2) (fun e7 _ _ => k - (intOf e7).toNat)
      case atStart => exact ⟨0, 0, _, Nat.zero_le _, rfl, rfl, HO0.out, hbw⟩
      case round =>
        clear hbw
        obtain ⟨j, cq, D, hj, rfl, rfl, hown, hb⟩ := hrel
        by_cases hlt : j < k
        · have hkl : j < xs.length := by rw [HL.out]; exact hlt
          have hj0 : (0 : Int) ≤ (j : Int) := by omega
          have hj1 : (j : Int) < (k : Int) := by omega
          obtain ⟨g, off, hA, hg0, d1, d2⟩ := RdC.at_ HR.out hkl
          subst hA
          have hg : g < wr.heap.size := Nat.lt_of_lt_of_le hg0 hb.size
          replace d1 := (hb.cell (p := ⟨g, off + j * 2, none⟩) hg0).trans d1
          replace d2 := (hb.cell (p := ⟨g, off + j * 2 + 1, none⟩) hg0).trans d2
          have hgD : ¬ (some g = ob D) := fun e => by have := (own_lt hown g e.symm).1; omega
          have hst := mv_take xs (-px) (-py) j hkl
          have hsm := HS.out _ (List.getElem_mem hkl)
          obtain ⟨p, hp⟩ : ∃ p, xs[j].1 = p := ⟨_, rfl⟩
          obtain ⟨q, hq⟩ : ∃ q, xs[j].2 = q := ⟨_, rfl⟩
          unfold small at hsm
          rw [hp, hq] at hsm hst
          rw [hp] at d1
          rw [hq] at d2
          have e1 : IntKind.i64.wrap (p - px) = p - px := Go.IntWalk.i64_in _ (by omega)
          have e2 : IntKind.i64.wrap (q - py) = q - py := Go.IntWalk.i64_in _ (by omega)
          rw [← Int.sub_eq_add_neg, ← Int.sub_eq_add_neg] at hst
          have HST := Lib.hid hst
          have HO := Lib.hid hown
          have hbs := hb.size
          clear hst hown hp hq hsm
          go_wp2_with fail
          (refine wp_region_tailN (C := Gr wr D) 16 (by kernel_rfl) (by kernel_rfl) (Gr.drawn _ _) (fun _ _ h k => h.ext k) ?_; simp only [List.take_succ_cons, List.take_zero, List.drop_succ_cons, List.drop_zero]; (repeat (first | (refine headSkip (by rfl) rfl ?_; simp only [List.setIfInBounds_toArray, List.set_cons_zero, List.set_cons_succ]) | (refine headV (v := ?_) (by rfl) rfl (fun w' hcw => ?_) ?_; rotate_left; ((try dsimp only at hcw); have hbc := hcw.cells; go_simp; first | done | with_reducible rfl | fail); simp only [List.setIfInBounds_toArray, List.set_cons_zero, List.set_cons_succ]))); unfold wpHead)
          (refine tailK (by rfl) (fun w3 hc3 he3 K hK => ?_); go_simp; refine hK _ _ (hc3.ext (by (repeat (first | with_reducible exact Below.refl _ _ | with_reducible assumption | with_reducible apply bel_alloc | with_reducible apply bel_drew | with_reducible apply bel_drewN | ((with_reducible refine bel_set ?_ ?_); rotate_left; (simp <;> omega)) | (with_reducible refine bel_trans ?_ (by with_reducible assumption)))))) ?_; clear hK K)
          (refine tailK (by rfl) (fun w4 hc4 he4 K hK => ?_); refine wpC _ _ _ rfl w.heap.size D j cq (mv (xs.take j) (-px) (-py)) rfl (own_keep ((own_keep HO.out he3).alloc _) he4) _ 1 1 [(p - px, q - py)] rfl (Rd.below (rd_newC _ _ _ _) he4) rfl (by omega) (by have h2 := he3.size; have h3 := he4.size; simp at h3; omega) ?_; intro A2 c2 w5 hown5 hg5 _; refine hK _ _ (Gr.trans hc4 hg5) ?_; clear hK K; simp only [Act.put, List.setIfInBounds_toArray, List.set_cons_zero, List.set_cons_succ])
          (refine tailK (by rfl) (fun w6 hc6 he6 K hK => ?_); go_simp; refine hK _ _ (hc6) ?_; clear hK K)
          (refine fun w7 hc7 he7 => NoPanic.normal ?_)
          have hb5 : Below w.heap.size w w5 := bel_app (bel_trans (bel_alloc (bel_trans hb he3) _) he4) hg5 (fun g' hg' => ((own_lt HO.out) g' hg').1)
          have HO3 := Lib.hid (own_keep (own_keep hown5 he6) he7)
          clear hown5
          go_wp2
          exact ⟨⟨j + 1, c2, A2, by omega, by go_num, rfl, by rw [HST.out]; exact HO3.out, bel_trans (bel_trans hb5 he6) he7⟩, by simp [intOf]; omega⟩
        · obtain rfl : j = k := by omega
          rw [List.take_of_length_le (by rw [HL.out]; omega), HVV.out] at hown
          have HO := Lib.hid hown
          have hj1 : ¬ (j : Int) < (j : Int) := by omega
          clear hown
          go_wp2
          go_ret
          exact ⟨_, _, _, rfl, HO.out, hb⟩
end Go.Proofs.Ytegnedpikpfjfaa

/- 'append(append(append([]T{}, a...), x), b...)' in a region that draws its order: the two literals may be made in either order. -/
namespace Go.Proofs.Ytegnedpikpfjfaa
open Go.RowKit
set_option linter.unusedVariables false
section
variable {P : Program} {ops : Array Oper} {md : Region.Mode} {C : World → Prop} {Q : Exit → Act → World → Prop}
theorem rg_one {f i : Nat} {o : Oper} {listed : Array Bool} {a : Act} {w : World} (hr : Region.ready md ops listed = [i]) (hi : ops[i]? = some o) (hg : o.guard = none)
    (h : ∀ w', C w' → Ext w w' → o.wp P a w' (fun a' w'' => C w'' ∧ wpRg P md ops C Q f (listed.setIfInBounds i true) a' w'') Q) : wpRg P md ops C Q (f + 1) listed a w := by
  refine ⟨fun e => by rw [hr] at e; simp at e, fun j hj w' hc he => ?_⟩
  rw [hr] at hj
  obtain rfl : j = i := by simpa using hj
  unfold wpOp
  simp only [hi]
  rw [if_pos (by simp [Region.wanted, hg])]
  exact .inl (h w' hc he)
theorem rg_two {f i k : Nat} {o o2 : Oper} {listed : Array Bool} {a : Act} {w : World} (hr : Region.ready md ops listed = [i, k]) (hi : ops[i]? = some o) (hg : o.guard = none) (hk : ops[k]? = some o2) (hg2 : o2.guard = none)
    (h : ∀ w', C w' → Ext w w' → o.wp P a w' (fun a' w'' => C w'' ∧ wpRg P md ops C Q f (listed.setIfInBounds i true) a' w'') Q)
    (h2 : ∀ w', C w' → Ext w w' → o2.wp P a w' (fun a' w'' => C w'' ∧ wpRg P md ops C Q f (listed.setIfInBounds k true) a' w'') Q) : wpRg P md ops C Q (f + 1) listed a w := by
  refine ⟨fun e => by rw [hr] at e; simp at e, fun j hj w' hc he => ?_⟩
  rw [hr] at hj
  unfold wpOp
  rcases (by simpa using hj : j = i ∨ j = k) with rfl | rfl
  · simp only [hi]
    rw [if_pos (by simp [Region.wanted, hg])]
    exact .inl (h w' hc he)
  · simp only [hk]
    rw [if_pos (by simp [Region.wanted, hg2])]
    exact .inl (h2 w' hc he)
end
section
variable {P : Program} {ops : Array Oper} {C : World → Prop} {Q : Exit → Act → World → Prop} {w0 : World}
theorem wp_region_rg {id : Nat} {a : Act} {w : World} {l : List Oper} (n : Nat) (hl : l.length = n) (hm : P.follows .mixedOrders = true) (h : wpRg P .any l.toArray (ExC w) (NoPanic Q) n (Array.replicate n false) a w) : (Code.region id l.toArray true).wp P Q a w := by
  subst hl
  exact wp_region_noPanic (wp_region_any hm (wpAny_of_wpRg _ _ _ _ (ExC.drawn w) (wpRg_ext h (ExC.drawn w))))
/-- An operation that only reads is taken first. -/
theorem rgT {i d : Nat} {oi : Oper} {v : Value} {f : Nat} {listed : Array Bool} {ts : Array Value} {ds : List Deferred} {w : World} (hi : ops[i]? = some oi) (hd : oi.dst = some d)
    (hs : Region.noSelect ops = true) (hf : Region.free .any ops listed i = true) (hr : (Region.ready .any ops listed).contains i = true) (hw : Region.wanted oi (yielded ops ts) = true)
    (hy : ∀ w', ExC w0 w' → oi.quietAt P { tmps := ts, defers := ds } (Ext w') w' v)
    (h : wpRg P .any ops (ExC w0) (NoPanic Q) f (listed.setIfInBounds i true) { tmps := ts.setIfInBounds d v, defers := ds } w) : wpRg P .any ops (ExC w0) (NoPanic Q) (f + 1) listed { tmps := ts, defers := ds } w :=
  wpRg_first (fun _ _ h k => h.ext k) hi (Region.noSelect_spec hs) (fun _ _ _ h => h) f listed _ w (Region.free_spec hi hf) (by simpa using hr) (.inl ⟨hw, hy⟩) (by rw [hd]; exact h)
end
/-- a is a0 but for some slots. -/
structure Fr (S : List Nat) (a0 a : Act) : Prop where
  size : a.tmps.size = a0.tmps.size
  defers : a.defers = a0.defers
  same : ∀ t, t ∉ S → a.tmps[t]? = a0.tmps[t]?
theorem Fr.refl (S : List Nat) (a : Act) : Fr S a a := ⟨rfl, rfl, fun _ _ => rfl⟩
theorem Fr.put {S : List Nat} {a0 a : Act} (h : Fr S a0 a) {d : Nat} (hd : d ∈ S) (v : Value) : Fr S a0 (a.put (some d) v) := by
  refine ⟨by simp [Act.put, h.size], h.defers, fun t ht => ?_⟩
  have hne : d ≠ t := by rintro rfl; exact ht hd
  simp only [Act.put, Array.getElem?_setIfInBounds_ne hne]
  exact h.same t ht
theorem Fr.eval {S : List Nat} {a0 a : Act} (h : Fr S a0 a) {t : Nat} (ht : t ∉ S) : a.eval (.tmp t) = a0.eval (.tmp t) := by
  simp only [Act.eval, Array.getD_eq_getD_getElem?, h.same t ht]
theorem put_eval {a : Act} {d : Nat} (v : Value) (hd : d < a.tmps.size) : (a.put (some d) v).eval (.tmp d) = v := by simp [Act.eval, Act.put, hd]
theorem put_eval_ne {a : Act} {d t : Nat} (v : Value) (hne : d ≠ t) : (a.put (some d) v).eval (.tmp t) = a.eval (.tmp t) := by
  simp [Act.eval, Act.put, Array.getElem?_setIfInBounds_ne hne]
section
variable {P : Program} {o : Oper} {a : Act} {w : World} {K : Act → World → Prop} {Q : Exit → Act → World → Prop}
theorem wp_val {v : Value} {w' : World} (h : (execOp a.eval o).run P w = .ok (.value v) w') (hk : K (a.put o.dst v) w') : o.wp P a w K Q := by
  unfold Oper.wp
  rw [h]
  exact hk
end
theorem agree_set {S : List Nat} {s : Nat} {ts X : Array Value} (hz : ts.size = X.size) (h : ∀ t, t ∉ s :: S → ts[t]? = X[t]?) : ∀ t, t ∉ S → ts[t]? = (X.setIfInBounds s (ts.getD s undef))[t]? := by
  intro t ht
  by_cases e : s = t
  · subst e
    rcases Nat.lt_or_ge s ts.size with hl | hl
    · rw [Array.getElem?_setIfInBounds_self_of_lt (by omega), Array.getD_eq_getD_getElem?, Array.getElem?_eq_getElem hl]; rfl
    · rw [Array.getElem?_eq_none hl, Array.getElem?_eq_none (by simp; omega)]
  · rw [Array.getElem?_setIfInBounds_ne e]
    exact h t (by simp [Ne.symm e, ht])
theorem Fr.form {s0 sA sN sB sD dE : Nat} {a0 a : Act} (h : Fr [s0, sA, sN, sB, sD, dE] a0 a) {v : Value} (hv : a.eval (.tmp dE) = v) :
    ∃ v0 vA vN vB vD, a = { tmps := (((((a0.tmps.setIfInBounds s0 v0).setIfInBounds sA vA).setIfInBounds sN vN).setIfInBounds sB vB).setIfInBounds sD vD).setIfInBounds dE v, defers := a0.defers } := by
  refine ⟨a.tmps.getD s0 undef, a.tmps.getD sA undef, a.tmps.getD sN undef, a.tmps.getD sB undef, a.tmps.getD sD undef, ?_⟩
  have h1 := agree_set h.size h.same
  have h2 := agree_set (by simp [h.size]) h1
  have h3 := agree_set (by simp [h.size]) h2
  have h4 := agree_set (by simp [h.size]) h3
  have h5 := agree_set (by simp [h.size]) h4
  have h6 := agree_set (by simp [h.size]) h5
  have e : a.tmps = _ := Array.ext_getElem? fun t => h6 t (by simp)
  have hv' : a.tmps.getD dE undef = v := hv
  rw [hv'] at e
  obtain ⟨ts, ds⟩ := a
  have hd := h.defers
  simp only at hd e
  subst hd
  rw [← e]
/-- What is known of the region's six operations. -/
structure InsOps (P : Program) (ops : Array Oper) (T e : TypeId) (i0 iA iN iB iD iE s0 sA sN sB sD dE t1 t2 : Nat) (vn : Value) (news : List Value) (xn : Operand) : Prop where
  p0 : ∃ o : Oper, ops[i0]? = some o ∧ o.guard = none ∧ o.dst = some s0 ∧ ∀ a w, (execOp (Act.eval a) o).run P w = .ok (.value (.slice (some ⟨w.heap.size, 0, none⟩) 0 0)) (w.alloc (.cells #[] e))
  pA : ∃ o : Oper, ops[iA]? = some o ∧ o.guard = none ∧ o.dst = some sA ∧ o.op = .call { callee := .builtin .append, args := #[.tmp s0, .tmp t1], argTypes := #[T, T] }
  pN : ∃ o : Oper, ops[iN]? = some o ∧ o.guard = none ∧ o.dst = some sN ∧ ∀ a w, a.eval xn = vn → (execOp (Act.eval a) o).run P w = .ok (.value (.slice (some ⟨w.heap.size, 0, none⟩) 1 1)) (w.alloc (.cells news.toArray e))
  pB : ∃ o : Oper, ops[iB]? = some o ∧ o.guard = none ∧ o.dst = some sB ∧ o.op = .call { callee := .builtin .append, args := #[.tmp sA, .tmp sN], argTypes := #[T, T] }
  pD : ∃ o : Oper, ops[iD]? = some o ∧ o.guard = none ∧ o.dst = some sD ∧ o.op = .call { callee := .builtin .append, args := #[.tmp sB, .tmp t2], argTypes := #[T, T] }
  pE : ∃ o : Oper, ops[iE]? = some o ∧ o.guard = none ∧ o.dst = some dE ∧ o.op = .assign (.tmp sD)
/-- The slots differ. -/
structure InsSlots (s0 sA sN sB sD dE t1 t2 : Nat) (a0 : Act) : Prop where
  lt : s0 < a0.tmps.size ∧ sA < a0.tmps.size ∧ sN < a0.tmps.size ∧ sB < a0.tmps.size ∧ sD < a0.tmps.size ∧ dE < a0.tmps.size
  ne : s0 ≠ sN ∧ sA ≠ sN
  t1n : t1 ∉ [s0, sA, sN, sB, sD, dE]
  t2n : t2 ∉ [s0, sA, sN, sB, sD, dE]
section
variable {P : Program} {ops : Array Oper} {md : Region.Mode} {Q : Exit → Act → World → Prop}
variable {T e : TypeId} {i : TypeInfo} {z : Value} {size bytes : Nat} {i0 iA iN iB iD iE s0 sA sN sB sD dE t1 t2 : Nat} {vn : Value} {vs1 news vs2 : List Value} {xn : Operand} {A1 A2 : Option Addr} {m1 c1 m2 c2 : Nat} {a0 : Act} {w0 : World}
/-- The last two: the second append, the assignment. -/
theorem ins_3 (L : Array Bool) (ht : P.underlying T = some (.slice e)) (hi : P.info? e = some i) (hz : i.zero = some z) (hsize : i.size = size) (hby : i.bytes = bytes) (hzs : z.cells.size = size) (hsz : 0 < size)
    (ho : InsOps P ops T e i0 iA iN iB iD iE s0 sA sN sB sD dE t1 t2 vn news xn) (hs : InsSlots s0 sA sN sB sD dE t1 t2 a0)
    (hrD : Region.ready md ops L = [iD]) (hrE : Region.ready md ops (L.setIfInBounds iD true) = [iE]) (hrF : Region.ready md ops ((L.setIfInBounds iD true).setIfInBounds iE true) = [])
    (e2 : a0.eval (.tmp t2) = .slice A2 m2 c2) (r2 : Rd w0 A2 vs2) (l2 : vs2.length = m2 * size) (h2 : ∀ u ∈ vs2, u.oneCell' = true) (hm : m1 + 1 + m2 ≤ 1099511627776) (hbs : bytes ≤ 64)
    (hQ : ∀ a' w' A' c', Fr [s0, sA, sN, sB, sD, dE] a0 a' → a'.eval (.tmp dE) = .slice A' (m1 + 1 + m2) c' → w'.ownsRow w0.heap.size e size (.slice A' (m1 + 1 + m2) c') (m1 + 1 + m2) (vs1 ++ news ++ vs2) → Ext w0 w' → Q .normal a' w')
    (a : Act) (w : World) (hf : Fr [s0, sA, sN, sB, sD, dE] a0 a) (hx : Ext w0 w) {B : Option Addr} {cB : Nat} (eB : a.eval (.tmp sB) = .slice B (m1 + 1) cB) (oB : w.ownsRow w0.heap.size e size (.slice B (m1 + 1) cB) (m1 + 1) (vs1 ++ news)) :
    wpRg P md ops (ExC w0) Q 2 L a w := by
  obtain ⟨oD, d1, d2, d3, d4⟩ := ho.pD
  obtain ⟨oE, f1, f2, f3, f4⟩ := ho.pE
  refine rg_one hrD d1 d2 fun w1 hc1 he1 => ?_
  have hz1 := hc1.size
  refine wp_app w1 _ _ T d4 w0.heap.size e i z size bytes ht hi hz hsize hby hzs hsz B (m1 + 1) cB _ eB (own_keep oB he1) A2 m2 c2 vs2 (by rw [hf.eval hs.t2n]; exact e2) (r2.below hc1) l2 h2 (by unfold maxLen; omega)
    (Nat.le_trans (Nat.mul_le_mul hm hbs) (by omega)) hz1 ?_
  intro A' c' w2 o2 g2 at2
  have hx2 : Ext w0 w2 := bel_app hc1 g2 (fun g h => (own_lt oB g h).1)
  refine ⟨hx2, ?_⟩
  rw [d3]
  refine rg_one hrE f1 f2 fun w3 hc3 he3 => ?_
  have hlt := hs.lt
  have hf2 : Fr [s0, sA, sN, sB, sD, dE] a0 (a.put (some sD) (.slice A' (m1 + 1 + m2) c')) := hf.put (by simp) _
  have eD : (a.put (some sD) (.slice A' (m1 + 1 + m2) c')).eval (.tmp sD) = .slice A' (m1 + 1 + m2) c' := put_eval _ (by rw [hf.size]; exact hlt.2.2.2.2.1)
  refine wp_val (BigFrame.run_assign (.tmp sD) f4 _) ⟨hc3, ?_⟩
  rw [eD, f3]
  refine ⟨hrF, fun w4 hc4 he4 => ?_⟩
  exact hQ _ _ A' c' (hf2.put (by simp) _) (put_eval _ (by rw [hf2.size]; exact hlt.2.2.2.2.2)) (own_keep (own_keep o2 he3) he4) hc4
/-- The first append's slice and the new element are there. -/
theorem ins_2 (L : Array Bool) (ht : P.underlying T = some (.slice e)) (hi : P.info? e = some i) (hz : i.zero = some z) (hsize : i.size = size) (hby : i.bytes = bytes) (hzs : z.cells.size = size) (hsz : 0 < size)
    (ho : InsOps P ops T e i0 iA iN iB iD iE s0 sA sN sB sD dE t1 t2 vn news xn) (hs : InsSlots s0 sA sN sB sD dE t1 t2 a0)
    (hrB : Region.ready md ops L = [iB]) (hm : m1 + 1 + m2 ≤ 1099511627776) (hbs : bytes ≤ 64) (ln : news.length = size) (hn : ∀ u ∈ news, u.oneCell' = true)
    (h3 : ∀ a w B cB, Fr [s0, sA, sN, sB, sD, dE] a0 a → Ext w0 w → a.eval (.tmp sB) = .slice B (m1 + 1) cB → w.ownsRow w0.heap.size e size (.slice B (m1 + 1) cB) (m1 + 1) (vs1 ++ news) → wpRg P md ops (ExC w0) Q 2 (L.setIfInBounds iB true) a w)
    (a : Act) (w : World) (hf : Fr [s0, sA, sN, sB, sD, dE] a0 a) (hx : Ext w0 w) {B : Option Addr} {cB : Nat} (eA : a.eval (.tmp sA) = .slice B m1 cB) (oA : w.ownsRow w0.heap.size e size (.slice B m1 cB) m1 vs1)
    {N : Option Addr} {cN : Nat} (eN : a.eval (.tmp sN) = .slice N 1 cN) (rN : Rd w N news) : wpRg P md ops (ExC w0) Q 3 L a w := by
  obtain ⟨oB, d1, d2, d3, d4⟩ := ho.pB
  refine rg_one hrB d1 d2 fun w1 hc1 he1 => ?_
  have hz1 := hc1.size
  refine wp_app w1 _ _ T d4 w0.heap.size e i z size bytes ht hi hz hsize hby hzs hsz B m1 cB _ eA (own_keep oA he1) N 1 cN news eN (rN.below he1) (by rw [ln]; omega) hn (by unfold maxLen; omega)
    (Nat.le_trans (Nat.mul_le_mul (show m1 + 1 ≤ 1099511627776 by omega) hbs) (by omega)) hz1 ?_
  intro A' c' w2 o2 g2 at2
  have hx2 : Ext w0 w2 := bel_app hc1 g2 (fun g h => (own_lt oA g h).1)
  refine ⟨hx2, ?_⟩
  rw [d3]
  exact h3 _ _ A' c' (hf.put (by simp) _) hx2 (put_eval _ (by rw [hf.size]; exact hs.lt.2.2.2.1)) o2
/-- The whole tail. -/
theorem ins_tail (L : Array Bool) (ht : P.underlying T = some (.slice e)) (hi : P.info? e = some i) (hz : i.zero = some z) (hsize : i.size = size) (hby : i.bytes = bytes) (hzs : z.cells.size = size) (hsz : 0 < size)
    (ho : InsOps P ops T e i0 iA iN iB iD iE s0 sA sN sB sD dE t1 t2 vn news xn) (hs : InsSlots s0 sA sN sB sD dE t1 t2 a0) (hxn : ∀ a, Fr [s0, sA, sN, sB, sD, dE] a0 a → a.eval xn = vn)
    (r_ : Region.ready md ops L = [i0, iN]) (r0 : Region.ready md ops (L.setIfInBounds i0 true) = [iA, iN]) (rN : Region.ready md ops (L.setIfInBounds iN true) = [i0])
    (r0A : Region.ready md ops ((L.setIfInBounds i0 true).setIfInBounds iA true) = [iN]) (r0N : Region.ready md ops ((L.setIfInBounds i0 true).setIfInBounds iN true) = [iA])
    (i0N : i0 ≠ iN) (iAN : iA ≠ iN)
    (rB : Region.ready md ops (((L.setIfInBounds i0 true).setIfInBounds iA true).setIfInBounds iN true) = [iB])
    (rD : Region.ready md ops ((((L.setIfInBounds i0 true).setIfInBounds iA true).setIfInBounds iN true).setIfInBounds iB true) = [iD])
    (rE : Region.ready md ops (((((L.setIfInBounds i0 true).setIfInBounds iA true).setIfInBounds iN true).setIfInBounds iB true).setIfInBounds iD true) = [iE])
    (rF : Region.ready md ops ((((((L.setIfInBounds i0 true).setIfInBounds iA true).setIfInBounds iN true).setIfInBounds iB true).setIfInBounds iD true).setIfInBounds iE true) = [])
    (e1 : a0.eval (.tmp t1) = .slice A1 m1 c1) (q1 : Rd w0 A1 vs1) (l1 : vs1.length = m1 * size) (h1 : ∀ u ∈ vs1, u.oneCell' = true)
    (e2 : a0.eval (.tmp t2) = .slice A2 m2 c2) (q2 : Rd w0 A2 vs2) (l2 : vs2.length = m2 * size) (h2 : ∀ u ∈ vs2, u.oneCell' = true)
    (ln : news.length = size) (hn : ∀ u ∈ news, u.oneCell' = true) (hm : m1 + 1 + m2 ≤ 1099511627776) (hbs : bytes ≤ 64)
    (hQ : ∀ a' w' A' c', Fr [s0, sA, sN, sB, sD, dE] a0 a' → a'.eval (.tmp dE) = .slice A' (m1 + 1 + m2) c' → w'.ownsRow w0.heap.size e size (.slice A' (m1 + 1 + m2) c') (m1 + 1 + m2) (vs1 ++ news ++ vs2) → Ext w0 w' → Q .normal a' w') :
    wpRg P md ops (ExC w0) Q 6 L a0 w0 := by
  obtain ⟨o0, a1, a2, a3, a4⟩ := ho.p0
  obtain ⟨oA, b1, b2, b3, b4⟩ := ho.pA
  obtain ⟨oN, n1, n2, n3, n4⟩ := ho.pN
  have hlt := hs.lt
  have hsz0 : ∀ w : World, (w.alloc (.cells (#[] : Array Value) e)).ownsRow w.heap.size e size (.slice (some ⟨w.heap.size, 0, none⟩) 0 0) 0 [] := fun w => own_new w e size 0 #[] (by simp) (by simp [maxLen]) (Nat.le_refl _)
  -- behind the first append and the element
  have S2 : ∀ (a : Act) (w : World), Fr [s0, sA, sN, sB, sD, dE] a0 a → Ext w0 w → ∀ (B : Option Addr) (cB : Nat), a.eval (.tmp sA) = .slice B m1 cB → w.ownsRow w0.heap.size e size (.slice B m1 cB) m1 vs1 → ∀ (N : Option Addr) (cN : Nat), a.eval (.tmp sN) = .slice N 1 cN → Rd w N news →
      wpRg P md ops (ExC w0) Q 3 (((L.setIfInBounds i0 true).setIfInBounds iA true).setIfInBounds iN true) a w := fun a w hf hx B cB eA oA' N cN eN rN' =>
    ins_2 (m2 := m2) _ ht hi hz hsize hby hzs hsz ho hs rB hm hbs ln hn (fun a w B cB hf hx eB oB' => ins_3 _ ht hi hz hsize hby hzs hsz ho hs rD rE rF e2 q2 l2 h2 hm hbs hQ a w hf hx eB oB') a w hf hx eA oA' eN rN'
  -- the first append
  have SA : ∀ (a : Act) (w : World) (f : Nat) (L' : Array Bool), Fr [s0, sA, sN, sB, sD, dE] a0 a → Ext w0 w → ∀ (B : Option Addr) (cB : Nat), a.eval (.tmp s0) = .slice B 0 cB → w.ownsRow w0.heap.size e size (.slice B 0 cB) 0 [] →
      ∀ K : Act → World → Prop, (∀ A' c' w', Fr [s0, sA, sN, sB, sD, dE] a0 (a.put (some sA) (.slice A' m1 c')) → Ext w0 w' → w'.ownsRow w0.heap.size e size (.slice A' m1 c') m1 vs1 → w.grownBy w' (ob B) → (∀ g, ob B = some g → w0.heap.size ≤ g) → K (a.put (some sA) (.slice A' m1 c')) w') → oA.wp P a w K Q := by
    intro a w f L' hf hx B cB e0 o0' K hK
    refine wp_app w _ _ T b4 w0.heap.size e i z size bytes ht hi hz hsize hby hzs hsz B 0 cB [] e0 o0' A1 m1 c1 vs1 (by rw [hf.eval hs.t1n]; exact e1) (q1.below hx) l1 h1 (by unfold maxLen; omega)
      (by rw [Nat.zero_add]; exact Nat.le_trans (Nat.mul_le_mul (show m1 ≤ 1099511627776 by omega) hbs) (by omega)) hx.size ?_
    intro A' c' w2 o2 g2 at2
    simp only [Nat.zero_add, List.nil_append] at o2 ⊢
    rw [b3]
    exact hK A' c' w2 (hf.put (by simp) _) (bel_app hx g2 (fun g h => (own_lt o0' g h).1)) o2 g2 (fun g h => (own_lt o0' g h).1)
  refine rg_two r_ a1 a2 n1 n2 (fun w1 hc1 he1 => ?_) (fun w1 hc1 he1 => ?_)
  · -- the empty literal first
    refine wp_val (a4 a0 w1) ⟨bel_alloc hc1 _, ?_⟩
    rw [a3]
    have f0 : Fr [s0, sA, sN, sB, sD, dE] a0 (a0.put (some s0) (.slice (some ⟨w1.heap.size, 0, none⟩) 0 0)) := (Fr.refl _ _).put (by simp) _
    have ev0 : (a0.put (some s0) (.slice (some ⟨w1.heap.size, 0, none⟩) 0 0)).eval (.tmp s0) = .slice (some ⟨w1.heap.size, 0, none⟩) 0 0 := put_eval _ hlt.1
    have ow0 := own_base (hsz0 w1) hc1.size
    refine rg_two r0 b1 b2 n1 n2 (fun w2 hc2 he2 => ?_) (fun w2 hc2 he2 => ?_)
    · refine SA _ w2 0 L f0 hc2 _ _ ev0 (own_keep ow0 he2) _ fun A' c' w3 hf3 hx3 o3 _ _ => ⟨hx3, ?_⟩
      refine rg_one r0A n1 n2 fun w4 hc4 he4 => ?_
      refine wp_val (n4 _ w4 (hxn _ hf3)) ⟨bel_alloc hc4 _, ?_⟩
      rw [n3]
      refine S2 _ _ (hf3.put (by simp) _) (bel_alloc hc4 _) A' c' ?_ (own_keep (own_keep o3 he4) (bel_alloc (Below.refl _ _) _)) (some ⟨w4.heap.size, 0, none⟩) 1 (put_eval _ (by rw [hf3.size]; exact hlt.2.2.1)) (by simpa using rd_new w4 e news.toArray)
      rw [put_eval_ne _ hs.ne.2.symm]
      exact put_eval _ (by rw [f0.size]; exact hlt.2.1)
    · refine wp_val (n4 _ w2 (hxn _ f0)) ⟨bel_alloc hc2 _, ?_⟩
      rw [n3]
      refine rg_one r0N b1 b2 fun w3 hc3 he3 => ?_
      have f1 := f0.put (d := sN) (by simp) (.slice (some ⟨w2.heap.size, 0, none⟩) 1 1)
      have ev1 : ((a0.put (some s0) (.slice (some ⟨w1.heap.size, 0, none⟩) 0 0)).put (some sN) (.slice (some ⟨w2.heap.size, 0, none⟩) 1 1)).eval (.tmp s0) = .slice (some ⟨w1.heap.size, 0, none⟩) 0 0 := by
        rw [put_eval_ne _ hs.ne.1.symm]; exact ev0
      have evN : ((a0.put (some s0) (.slice (some ⟨w1.heap.size, 0, none⟩) 0 0)).put (some sN) (.slice (some ⟨w2.heap.size, 0, none⟩) 1 1)).eval (.tmp sN) = .slice (some ⟨w2.heap.size, 0, none⟩) 1 1 := put_eval _ (by rw [f0.size]; exact hlt.2.2.1)
      have rdN : Rd w3 (some ⟨w2.heap.size, 0, none⟩) news := Rd.below (by simpa using rd_new w2 e news.toArray) he3
      refine SA _ w3 0 L f1 hc3 _ _ ev1 (own_keep (own_keep (own_keep ow0 he2) (bel_alloc (Below.refl _ _) _)) he3) _ fun A' c' w4 hf4 hx4 o4 g4 _ => ⟨hx4, ?_⟩
      rw [Array.setIfInBounds_comm _ _ (Ne.symm iAN)]
      have hz := he2.size
      refine S2 _ _ hf4 hx4 A' c' (put_eval _ (by rw [f1.size]; exact hlt.2.1)) o4 (some ⟨w2.heap.size, 0, none⟩) 1 ?_ (rdN.grown g4 (fun g h e => by
        simp only [ob, Option.map_some, Option.some.injEq] at h e
        simp at hz
        omega))
      rw [put_eval_ne _ hs.ne.2]
      exact evN
  · -- the element first
    refine wp_val (n4 a0 w1 (hxn _ (Fr.refl _ _))) ⟨bel_alloc hc1 _, ?_⟩
    rw [n3]
    have f0 : Fr [s0, sA, sN, sB, sD, dE] a0 (a0.put (some sN) (.slice (some ⟨w1.heap.size, 0, none⟩) 1 1)) := (Fr.refl _ _).put (by simp) _
    have evN : (a0.put (some sN) (.slice (some ⟨w1.heap.size, 0, none⟩) 1 1)).eval (.tmp sN) = .slice (some ⟨w1.heap.size, 0, none⟩) 1 1 := put_eval _ hlt.2.2.1
    have rdN0 : Rd (w1.alloc (.cells news.toArray e)) (some ⟨w1.heap.size, 0, none⟩) news := by simpa using rd_new w1 e news.toArray
    refine rg_one rN a1 a2 fun w2 hc2 he2 => ?_
    refine wp_val (a4 _ w2) ⟨bel_alloc hc2 _, ?_⟩
    rw [a3]
    rw [Array.setIfInBounds_comm _ _ (Ne.symm i0N)]
    refine rg_one r0N b1 b2 fun w3 hc3 he3 => ?_
    have f1 := f0.put (d := s0) (by simp) (.slice (some ⟨w2.heap.size, 0, none⟩) 0 0)
    have ev0 : ((a0.put (some sN) (.slice (some ⟨w1.heap.size, 0, none⟩) 1 1)).put (some s0) (.slice (some ⟨w2.heap.size, 0, none⟩) 0 0)).eval (.tmp s0) = .slice (some ⟨w2.heap.size, 0, none⟩) 0 0 := put_eval _ (by rw [f0.size]; exact hlt.1)
    have evN1 : ((a0.put (some sN) (.slice (some ⟨w1.heap.size, 0, none⟩) 1 1)).put (some s0) (.slice (some ⟨w2.heap.size, 0, none⟩) 0 0)).eval (.tmp sN) = .slice (some ⟨w1.heap.size, 0, none⟩) 1 1 := by
      rw [put_eval_ne _ hs.ne.1]; exact evN
    have rdN : Rd w3 (some ⟨w1.heap.size, 0, none⟩) news := ((rdN0.below he2).alloc _).below he3
    have ow0 := own_base (hsz0 w2) hc2.size
    refine SA _ w3 0 L f1 hc3 _ _ ev0 (own_keep ow0 he3) _ fun A' c' w4 hf4 hx4 o4 g4 _ => ⟨hx4, ?_⟩
    rw [Array.setIfInBounds_comm _ _ (Ne.symm iAN)]
    have hz := he2.size
    refine S2 _ _ hf4 hx4 A' c' (put_eval _ (by rw [f1.size]; exact hlt.2.1)) o4 (some ⟨w1.heap.size, 0, none⟩) 1 ?_ (rdN.grown g4 (fun g h e => by
      simp only [ob, Option.map_some, Option.some.injEq] at h e
      simp at hz
      omega))
    rw [put_eval_ne _ hs.ne.2]
    exact evN1
end
end Go.Proofs.Ytegnedpikpfjfaa

/- Cells put in order: the reference. -/
namespace Go.Proofs.Ytegnedpikpfjfaa
open Go.RowKit
set_option linter.unusedVariables false
attribute [local go_sem ↓] Go.wp_at_zero Go.wp_at_succ

def offC (c k : Nat) : Nat := if c = k then 0 else k * 2
theorem run_uptoC (w : World) (g m c k : Nat) (hk : k ≤ c) : (Instr.slice 22 (.slice (some ⟨g, 0, none⟩) m c) none (some (.int .i64 (k : Int))) none).run Try.prog w = .ok (.slice (some ⟨g, 0, none⟩) k c) w := by
  have h2 : (k : Int) ≤ (c : Int) := by omega
  simp [go_sem, h2]
theorem run_fromC (w : World) (g m c k : Nat) (hk : k ≤ m) : (Instr.slice 22 (.slice (some ⟨g, 0, none⟩) m c) (some (.int .i64 (k : Int))) none none).run Try.prog w = .ok (.slice (some ⟨g, offC c k, none⟩) (m - k) (c - k)) w := by
  have h1 : (0 : Int) ≤ (k : Int) := by omega
  have h2 : (k : Int) ≤ (m : Int) := by omega
  unfold offC
  by_cases hc : c = k
  · subst hc
    simp [go_sem, h2]
  · simp [go_sem, h2, hc]
theorem Rd.fromC {w : World} {g c k m : Nat} {l : List C} (h : Rd w (some ⟨g, 0, none⟩) (vC l)) (hl : l.length = m) (hmc : m ≤ c) : Rd w (some ⟨g, offC c k, none⟩) (vC (l.drop k)) := by
  rcases h with h | ⟨g', off, he, h⟩
  · have : l = [] := by
      have := congrArg List.length h
      rw [vC_length] at this
      exact List.eq_nil_of_length_eq_zero (by simp at this; omega)
    subst this
    simp [Rd, vC]
  · injection he with he
    injection he with h1 h2 h3
    subst h1 h2
    unfold offC
    split
    · next e =>
      have : l.drop k = [] := List.drop_of_length_le (by omega)
      rw [this]
      exact .inl rfl
    · refine .inr ⟨g, k * 2, rfl, fun j u hu => ?_⟩
      rw [vC_drop, List.getElem?_drop] at hu
      have := h _ _ hu
      simpa using this
theorem take_fold {α β : Type} (f : β → α → β) (b : β) (xs : List α) (k : Nat) (hk : k < xs.length) : (xs.take (k + 1)).foldl f b = f ((xs.take k).foldl f b) xs[k] := by
  rw [List.take_succ_eq_append_getElem hk, List.foldl_append]
  rfl
set_option maxRecDepth 100000 in
set_option maxHeartbeats 3200000 in
theorem SortCells_s (A : Option Addr) (n c : Nat) (xs : List C) (w : World) (hr : Rd w A (vC xs)) (hl : xs.length = n) (hn : n ≤ 1048576) :
    Calls Try.prog 11 #[.slice A n c] w (RetS w 29 2 (vC (sortC xs))) := by
  have HL := Lib.hid hl
  have HR := Lib.hid hr
  have hini := own_new w 29 2 0 #[] rfl (by simp [maxLen]) (base := w.heap.size) (Nat.le_refl _)
  have HI0 := Lib.hid hini
  clear hl hr hini
  go_enter Try.func11, Try.ntmps11
  go_wp2
  go_loopw [4, 3] (fun e4 e3 wr => ∃ (i g m cp : Nat), i ≤ n ∧ m ≤ i ∧ e4 = .int .i64 i ∧ e3 = .slice (some ⟨g, 0, none⟩) m cp ∧ wr.ownsRow w.heap.size 29 2 (.slice (some ⟨g, 0, none⟩) m cp) m (vC ((xs.take i).foldl (putG befC) [])) ∧ Below w.heap.size w wr) (fun e4 _ _ => n - (intOf e4).toNat)
  case atStart => exact ⟨0, _, 0, 0, Nat.zero_le _, Nat.zero_le _, rfl, by simp, HI0.out, (by (repeat (first | with_reducible exact Below.refl _ _ | with_reducible assumption | with_reducible apply bel_alloc | with_reducible apply bel_drew | with_reducible apply bel_drewN | ((with_reducible refine bel_set ?_ ?_); rotate_left; (simp <;> omega)) | (with_reducible refine bel_trans ?_ (by with_reducible assumption)))))⟩
  case round =>
    obtain ⟨i, g, m, cp, hi, hmn, rfl, rfl, hown, hb⟩ := hrel
    by_cases hlt : i < n
    · have hil : i < xs.length := by rw [HL.out]; exact hlt
      have hi0 : (0 : Int) ≤ (i : Int) := by omega
      have hi1 : (i : Int) < (n : Int) := by omega
      have hst := take_fold (putG befC) [] xs i hil
      obtain ⟨l, hle⟩ : ∃ l, (xs.take i).foldl (putG befC) [] = l := ⟨_, rfl⟩
      rw [hle] at hst hown
      obtain ⟨gx, ox, rfl, hgx, a1, a2⟩ := RdC.at_ (HR.out.below hb) hil
      obtain ⟨x, hx⟩ : ∃ x, xs[i].1 = x := ⟨_, rfl⟩
      obtain ⟨y, hy⟩ : ∃ y, xs[i].2 = y := ⟨_, rfl⟩
      have hxy : xs[i] = (x, y) := Prod.ext hx hy
      rw [hx] at a1
      rw [hy] at a2
      rw [hxy] at hst
      have hlm : l.length = m := by have := own_len hown; rw [vC_length] at this; omega
      have hmc : m ≤ cp ∧ cp ≤ 9223372036854775807 := by
        rcases hown.2 with ⟨h, _⟩ | ⟨g', cap, cur, hv, _, _, h1, h2, _⟩
        · cases h
        · injection hv with _ _ h3
          unfold maxLen at h2
          omega
      obtain ⟨hmc1, hmc2⟩ := hmc
      have hlr := Rd.of_own hown
      have hgl := (own_lt hown g rfl).2
      have HLM := Lib.hid hlm
      have HO := Lib.hid hown
      have HLR0 := Lib.hid hlr
      have hcm : cutG befC l (x, y) l.length = cutG befC l (x, y) m := by rw [hlm]
      have HIN : Hid (∀ k', cutG befC l (x, y) m = k' → ¬ (0 < k' ∧ l.getD (k' - 1) default = (x, y)) → putG befC l (x, y) = l.take k' ++ [(x, y)] ++ l.drop k') := fun k' h1 h2 => putG_new (hcm.trans h1) h2
      have HSM : Hid (∀ k', cutG befC l (x, y) m = k' → 0 < k' → l.getD (k' - 1) default = (x, y) → putG befC l (x, y) = l) := fun k' h1 h2 h3 => putG_same (hcm.trans h1) h2 h3
      have HST := Lib.hid hst
      have HBW := Lib.hid hb
      have HBZ := Lib.hid hb.size
      clear hlm hown hlr hcm hst hle hx hy hxy hb
      go_wp2
      go_loopw [5] (fun e5 wr2 => ∃ k : Nat, k ≤ m ∧ e5 = .int .i64 k ∧ cutG befC l (x, y) m = cutG befC l (x, y) k ∧ Below wr.heap.size wr wr2) (fun e5 _ => (intOf e5).toNat)
      case atStart => exact ⟨m, Nat.le_refl _, rfl, rfl, Below.refl _ _⟩
      case round =>
        obtain ⟨k, hk, rfl, hcut, hb2⟩ := hrel
        have HLR := Lib.hid (HLR0.out.below hb2)
        have f1 : wr.cell? ⟨gx, ox + i * 2, none⟩ = some (.int .i64 x) := (hb2.cell hgx).trans a1
        have f2 : wr.cell? ⟨gx, ox + i * 2 + 1, none⟩ = some (.int .i64 y) := (hb2.cell hgx).trans a2
        have HCUT := Lib.hid hcut
        have hgx2 : gx < wr.heap.size := Nat.lt_of_lt_of_le hgx hb2.size
        have hgl2 : g < wr.heap.size := Nat.lt_of_lt_of_le hgl hb2.size
        have HB := Lib.hid (bel_trans HBW.out hb2)
        have HBS : Hid (w.heap.size ≤ wr.heap.size) := (HB.out).size
        have hbs2 := HBS.out
        clear a1 a2 hcut
        by_cases hk0 : 0 < k
        · obtain ⟨j, hjk⟩ : ∃ j, k = j + 1 := ⟨k - 1, by omega⟩
          have hjl : j < l.length := by rw [HLM.out]; omega
          obtain ⟨g', off, he, _, b1, b2⟩ := RdC.at_ HLR.out hjl
          simp only [Option.some.injEq, Addr.mk.injEq, and_true] at he
          obtain ⟨rfl, rfl⟩ := he
          rw [Nat.zero_add] at b1 b2
          have hgd : l.getD j default = l[j] := by rw [List.getD_eq_getElem?_getD, List.getElem?_eq_getElem hjl]; rfl
          obtain ⟨p, hp⟩ : ∃ p, l[j].1 = p := ⟨_, rfl⟩
          obtain ⟨q, hq⟩ : ∃ q, l[j].2 = q := ⟨_, rfl⟩
          have hpq : l[j] = (p, q) := Prod.ext hp hq
          rw [hp] at b1
          rw [hq] at b2
          rw [hpq] at hgd
          have HG := Lib.hid hgd
          have hj1 : (k : Int) - 1 = (j : Int) := by omega
          have hj0 : (0 : Int) ≤ (j : Int) := by omega
          have hjw : IntKind.i64.wrap (j : Int) = (j : Int) := Go.IntWalk.i64_in _ (by omega)
          have hjm : (j : Int) < (m : Int) := by omega
          have hkp : (k : Int) > 0 := by omega
          have HJ := Lib.hid hjk
          have HK0 := Lib.hid hk0
          clear hgd hp hq hpq hjk
          cases hbf : befC (x, y) (p, q) with
          | true =>
            have HN : Hid (cutG befC l (x, y) m = cutG befC l (x, y) j) := by show _ = _; rw [HCUT.out, HJ.out]; show (if befC (x, y) (l.getD j default) = true then _ else _) = _; rw [HG.out, if_pos hbf]
            have HBF := Lib.hid hbf
            clear hbf
            go_wp2_with fail
            (refine wp_region_below (by kernel_rfl) (by kernel_rfl) ?_; (repeat (first | go_big_quiet_skip | (refine quietV (v := ?_) (by rfl) rfl (fun w' hbw => ?_) ?_; rotate_left; ((try dsimp only at hbw); have hbc := (bcell hbw).1; have hbf := (bcell hbw).2; go_simp; first | done | with_reducible rfl | exact callsBB (l2Before_s x y p q _) HBF.out hbw); simp only [List.setIfInBounds_toArray, List.set_cons_zero, List.set_cons_succ]))); refine wpQuiet_nil ?_; intro wq hbq)
            go_wp2_with fail
            exact ⟨⟨j, by omega, rfl, HN.out, bel_trans hb2 hbq⟩, by simp [intOf]; have := HJ.out; omega⟩
          | false =>
            have HN : Hid (cutG befC l (x, y) m = k) := by show _ = _; rw [HCUT.out, HJ.out]; show (if befC (x, y) (l.getD j default) = true then _ else _) = _; rw [HG.out, if_neg (by rw [hbf]; simp)]
            have HBF := Lib.hid hbf
            clear hbf
            by_cases hsame : p = x ∧ q = y
            · obtain ⟨rfl, rfl⟩ := hsame
              have HV := Lib.hid (HSM.out k HN.out HK0.out (by rw [show k - 1 = j from by have := HJ.out; omega]; exact HG.out))
              go_wp2_with fail
              (refine wp_region_below (by kernel_rfl) (by kernel_rfl) ?_; (repeat (first | go_big_quiet_skip | (refine quietV (v := ?_) (by rfl) rfl (fun w' hbw => ?_) ?_; rotate_left; ((try dsimp only at hbw); have hbc := (bcell hbw).1; have hbf := (bcell hbw).2; go_simp; first | done | with_reducible rfl | exact callsBB (l2Before_s p q p q _) HBF.out hbw); simp only [List.setIfInBounds_toArray, List.set_cons_zero, List.set_cons_succ]))); refine wpQuiet_nil ?_; intro wq hbq)
              have c1 : wq.cell? ⟨gx, ox + i * 2, none⟩ = some (.int .i64 p) := (hbq.cell hgx2).trans f1
              have c2 : wq.cell? ⟨gx, ox + i * 2 + 1, none⟩ = some (.int .i64 q) := (hbq.cell hgx2).trans f2
              have c3 : wq.cell? ⟨g, j * 2, none⟩ = some (.int .i64 p) := (hbq.cell hgl2).trans b1
              have c4 : wq.cell? ⟨g, j * 2 + 1, none⟩ = some (.int .i64 q) := (hbq.cell hgl2).trans b2
              have hgxq : gx < wq.heap.size := Nat.lt_of_lt_of_le hgx2 hbq.size
              have hglq : g < wq.heap.size := Nat.lt_of_lt_of_le hgl2 hbq.size
              clear f1 f2 b1 b2
              go_wp2_with fail
              (refine wp_region_below (by kernel_rfl) (by kernel_rfl) ?_; (repeat (first | go_big_quiet_skip | (refine quietV (v := ?_) (by rfl) rfl (fun w' hbw => ?_) ?_; rotate_left; ((try dsimp only at hbw); have hbc := (bcell hbw).1; have hbf := (bcell hbw).2; go_simp; first | done | with_reducible rfl | fail); simp only [List.setIfInBounds_toArray, List.set_cons_zero, List.set_cons_succ]))); refine wpQuiet_nil ?_; intro wz hbz)
              go_wp2_with fail
              exact ⟨⟨i + 1, g, m, cp, by omega, by omega, by go_num, rfl, by rw [HST.out, HV.out]; exact own_keep (own_keep (own_keep HO.out hb2) hbq) hbz, bel_trans (bel_trans HB.out hbq) hbz⟩, by simp [intOf]; omega⟩
            · have HV := Lib.hid (HIN.out k HN.out (fun h => hsame (by have := h.2; rw [show k - 1 = j from by have := HJ.out; omega, HG.out] at this; injection this with h1 h2; exact ⟨h1, h2⟩)))
              have hne : (p == x && q == y) = false := by
                rw [Bool.and_eq_false_iff, beq_eq_false_iff_ne, beq_eq_false_iff_ne]
                by_cases h1 : p = x
                · exact .inr fun h2 => hsame ⟨h1, h2⟩
                · exact .inl h1
              clear hsame
              go_wp2_with fail
              (refine wp_region_below (by kernel_rfl) (by kernel_rfl) ?_; (repeat (first | go_big_quiet_skip | (refine quietV (v := ?_) (by rfl) rfl (fun w' hbw => ?_) ?_; rotate_left; ((try dsimp only at hbw); have hbc := (bcell hbw).1; have hbf := (bcell hbw).2; go_simp; first | done | with_reducible rfl | exact callsBB (l2Before_s x y p q _) HBF.out hbw); simp only [List.setIfInBounds_toArray, List.set_cons_zero, List.set_cons_succ]))); refine wpQuiet_nil ?_; intro wq hbq)
              have c1 : wq.cell? ⟨gx, ox + i * 2, none⟩ = some (.int .i64 x) := (hbq.cell hgx2).trans f1
              have c2 : wq.cell? ⟨gx, ox + i * 2 + 1, none⟩ = some (.int .i64 y) := (hbq.cell hgx2).trans f2
              have c3 : wq.cell? ⟨g, j * 2, none⟩ = some (.int .i64 p) := (hbq.cell hgl2).trans b1
              have c4 : wq.cell? ⟨g, j * 2 + 1, none⟩ = some (.int .i64 q) := (hbq.cell hgl2).trans b2
              have hgxq : gx < wq.heap.size := Nat.lt_of_lt_of_le hgx2 hbq.size
              have hglq : g < wq.heap.size := Nat.lt_of_lt_of_le hgl2 hbq.size
              clear f1 f2 b1 b2
              go_wp2_with fail
              (refine wp_region_below (by kernel_rfl) (by kernel_rfl) ?_; (repeat (first | go_big_quiet_skip | (refine quietV (v := ?_) (by rfl) rfl (fun w' hbw => ?_) ?_; rotate_left; ((try dsimp only at hbw); have hbc := (bcell hbw).1; have hbf := (bcell hbw).2; go_simp; first | done | with_reducible rfl | fail); simp only [List.setIfInBounds_toArray, List.set_cons_zero, List.set_cons_succ]))); refine wpQuiet_nil ?_; intro wz hbz)
              have f1 : wz.cell? ⟨gx, ox + i * 2, none⟩ = some (.int .i64 x) := (hbz.cell hgxq).trans c1
              have f2 : wz.cell? ⟨gx, ox + i * 2 + 1, none⟩ = some (.int .i64 y) := (hbz.cell hgxq).trans c2
              have hgxz : gx < wz.heap.size := Nat.lt_of_lt_of_le hgxq hbz.size
              replace HLR := Lib.hid ((HLR.out.below hbq).below hbz)
              replace HB := Lib.hid (bel_trans (bel_trans HB.out hbq) hbz)
              replace HBS : Hid (w.heap.size ≤ wz.heap.size) := (HB.out).size
              clear c1 c2 c3 c4
              go_wp2_with fail
              obtain ⟨i0, hi, hz0, hz1, hz2⟩ := info_parts infoC
              have hs1 : ∀ w', (Instr.slice 22 (.slice (some ⟨g, 0, none⟩) m cp) none (some (.int .i64 (k : Int))) none).run Try.prog w' = .ok (.slice (some ⟨g, 0, none⟩) k cp) w' := fun w' => run_uptoC w' g m cp k (by omega)
              have hs2 : ∀ w', (Instr.slice 22 (.slice (some ⟨g, 0, none⟩) m cp) (some (.int .i64 (k : Int))) none none).run Try.prog w' = .ok (.slice (some ⟨g, offC cp k, none⟩) (m - k) (cp - k)) w' := fun w' => run_fromC w' g m cp k (by omega)
              have R2 : Hid (Rd wz (some ⟨g, offC cp k, none⟩) (vC (l.drop k))) := Rd.fromC HLR.out HLM.out (by omega)
              have R1 : Hid (Rd wz (some ⟨g, 0, none⟩) (vC (l.take k))) := by show Rd _ _ _; rw [vC_take]; exact Rd.take HLR.out _
              have L1 : Hid ((l.take k).length = k) := by show (l.take k).length = k; rw [List.length_take, HLM.out]; omega
              have L2 : Hid ((l.drop k).length = m - k) := by show (l.drop k).length = m - k; rw [List.length_drop, HLM.out]
              have HI := Lib.hid hi
              have HZ0 := Lib.hid hz0
              have HZ1 := Lib.hid hz1
              have HZ2 := Lib.hid hz2
              clear hi hz0 hz1 hz2
              refine wp_region_rg 16 rfl (by kernel_rfl) ?_
              (refine rgT (i := 1) (v := ?_) rfl rfl (by kernel_rfl) (by kernel_rfl) (by kernel_rfl) (by rfl) (fun w' hcw => ?_) ?_; rotate_left; ((try dsimp only at hcw); have hbc := hcw.cells; go_simp; first | done | with_reducible rfl); simp only [List.setIfInBounds_toArray, List.set_cons_zero, List.set_cons_succ])
              (refine rgT (i := 2) (v := ?_) rfl rfl (by kernel_rfl) (by kernel_rfl) (by kernel_rfl) (by rfl) (fun w' hcw => ?_) ?_; rotate_left; ((try dsimp only at hcw); have hbc := hcw.cells; go_simp; first | done | with_reducible rfl); simp only [List.setIfInBounds_toArray, List.set_cons_zero, List.set_cons_succ])
              (refine rgT (i := 3) (v := ?_) rfl rfl (by kernel_rfl) (by kernel_rfl) (by kernel_rfl) (by rfl) (fun w' hcw => ?_) ?_; rotate_left; ((try dsimp only at hcw); have hbc := hcw.cells; go_simp; first | done | with_reducible rfl); simp only [List.setIfInBounds_toArray, List.set_cons_zero, List.set_cons_succ])
              (refine rgT (i := 5) (v := ?_) rfl rfl (by kernel_rfl) (by kernel_rfl) (by kernel_rfl) (by rfl) (fun w' hcw => ?_) ?_; rotate_left; ((try dsimp only at hcw); have hbc := hcw.cells; go_simp; first | done | with_reducible rfl); simp only [List.setIfInBounds_toArray, List.set_cons_zero, List.set_cons_succ])
              (refine rgT (i := 6) (v := ?_) rfl rfl (by kernel_rfl) (by kernel_rfl) (by kernel_rfl) (by rfl) (fun w' hcw => ?_) ?_; rotate_left; ((try dsimp only at hcw); have hbc := hcw.cells; go_simp; first | done | with_reducible rfl); simp only [List.setIfInBounds_toArray, List.set_cons_zero, List.set_cons_succ])
              (refine rgT (i := 7) (v := ?_) rfl rfl (by kernel_rfl) (by kernel_rfl) (by kernel_rfl) (by rfl) (fun w' hcw => ?_) ?_; rotate_left; ((try dsimp only at hcw); have hbc := hcw.cells; go_simp; first | done | with_reducible rfl); simp only [List.setIfInBounds_toArray, List.set_cons_zero, List.set_cons_succ])
              (refine rgT (i := 8) (v := ?_) rfl rfl (by kernel_rfl) (by kernel_rfl) (by kernel_rfl) (by rfl) (fun w' hcw => ?_) ?_; rotate_left; ((try dsimp only at hcw); have hbc := hcw.cells; go_simp; first | done | with_reducible rfl); simp only [List.setIfInBounds_toArray, List.set_cons_zero, List.set_cons_succ])
              (refine rgT (i := 11) (v := ?_) rfl rfl (by kernel_rfl) (by kernel_rfl) (by kernel_rfl) (by rfl) (fun w' hcw => ?_) ?_; rotate_left; ((try dsimp only at hcw); have hbc := hcw.cells; go_simp; first | done | with_reducible rfl); simp only [List.setIfInBounds_toArray, List.set_cons_zero, List.set_cons_succ])
              (refine rgT (i := 12) (v := ?_) rfl rfl (by kernel_rfl) (by kernel_rfl) (by kernel_rfl) (by rfl) (fun w' hcw => ?_) ?_; rotate_left; ((try dsimp only at hcw); have hbc := hcw.cells; go_simp; first | done | with_reducible rfl); simp only [List.setIfInBounds_toArray, List.set_cons_zero, List.set_cons_succ])
              (refine rgT (i := 13) (v := ?_) rfl rfl (by kernel_rfl) (by kernel_rfl) (by kernel_rfl) (by rfl) (fun w' hcw => ?_) ?_; rotate_left; ((try dsimp only at hcw); have hbc := hcw.cells; go_simp; first | done | with_reducible rfl); simp only [List.setIfInBounds_toArray, List.set_cons_zero, List.set_cons_succ])
              refine ins_tail (T := 22) (e := 29) (i := i0) (z := .agg #[.int .i64 0, .int .i64 0]) (size := 2) (bytes := 16) (i0 := 0) (iA := 4) (iN := 9) (iB := 10) (iD := 14) (iE := 15) (s0 := 45) (sA := 49) (sN := 54) (sB := 55) (sD := 59) (dE := 3) (t1 := 48) (t2 := 58) (xn := .tmp 53) (vn := .agg #[.int .i64 x, .int .i64 y]) (news := vC [(x, y)]) (vs1 := vC (l.take k)) (vs2 := vC (l.drop k)) (A1 := some ⟨g, 0, none⟩) (m1 := k) (c1 := cp) (A2 := some ⟨g, offC cp k, none⟩) (m2 := m - k) (c2 := cp - k) _ ?ht ?hi ?hz ?h1 ?h2 rfl (by omega) ⟨⟨_, rfl, rfl, rfl, fun a w => ?p0⟩, ⟨_, rfl, rfl, rfl, rfl⟩, ⟨_, rfl, rfl, rfl, fun a w h => ?pN⟩, ⟨_, rfl, rfl, rfl, rfl⟩, ⟨_, rfl, rfl, rfl, rfl⟩, ⟨_, rfl, rfl, rfl, rfl⟩⟩ ⟨by simp, by decide, by decide, by decide⟩ (fun a h => (h.eval (by decide)).trans rfl) (by kernel_rfl) (by kernel_rfl) (by kernel_rfl) (by kernel_rfl) (by kernel_rfl) (by decide) (by decide) (by kernel_rfl) (by kernel_rfl) (by kernel_rfl) (by kernel_rfl) rfl ?q1 ?l1 ?o1 rfl ?q2 ?l2 ?o2 ?ln ?on ?hm ?hb ?hQ
              case ht => exact Try.underlying22
              case hi => exact HI.out
              case hz => exact HZ0.out
              case h1 => exact HZ1.out
              case h2 => exact HZ2.out
              case p0 => simp [go_sem, execOp]
              case pN => (generalize Act.eval a = ρ at h ⊢; simp [go_sem, execOp, h, vC])
              case q1 => exact R1.out
              case l1 => rw [vC_length, L1.out] <;> omega
              case o1 => exact vC_one _
              case q2 => exact R2.out
              case l2 => rw [vC_length, L2.out] <;> omega
              case o2 => exact vC_one _
              case ln => rfl
              case on => exact vC_one _
              case hm => omega
              case hb => omega
              case hQ =>
                intro a' w' A' c' hfr hev how hex
                obtain ⟨v0, vA, vN, vB, vD, rfl⟩ := hfr.form hev
                rw [← vC_append, ← vC_append, ← HV.out, ← HST.out] at how
                obtain ⟨g', rfl, _, _⟩ := own_at how (by omega)
                have HOW := Lib.hid (own_base how HBS.out)
                clear how hev hfr
                refine NoPanic.normal ?_
                simp only [List.setIfInBounds_toArray, List.set_cons_zero, List.set_cons_succ]
                go_wp2
                exact ⟨⟨i + 1, g', k + 1 + (m - k), c', by omega, by omega, by go_num, by rfl, HOW.out, bel_trans HB.out hex⟩, by simp [intOf]; omega⟩
        · obtain rfl : k = 0 := by omega
          have HN : Hid (cutG befC l (x, y) m = 0) := HCUT.out
          have HV := Lib.hid (HIN.out 0 HN.out (fun h => absurd h.1 (by omega)))
          obtain ⟨k, hkz⟩ : ∃ k : Nat, 0 = k := ⟨0, rfl⟩
          have hkp : ¬ 0 < k := by omega
          have hkp2 : decide (0 < k) = false := by simp; omega
          have HKZ := Lib.hid hkz
          rw [hkz] at HV hk
          rw [show ((0 : Nat) : Int) = (k : Int) from by rw [hkz]]
          clear hkz
          go_wp2_with fail
          (refine wp_region_below (by kernel_rfl) (by kernel_rfl) ?_; (repeat (first | go_big_quiet_skip | (refine quietV (v := ?_) (by rfl) rfl (fun w' hbw => ?_) ?_; rotate_left; ((try dsimp only at hbw); have hbc := (bcell hbw).1; have hbf := (bcell hbw).2; go_simp; first | done | with_reducible rfl | fail); simp only [List.setIfInBounds_toArray, List.set_cons_zero, List.set_cons_succ]))); refine wpQuiet_nil ?_; intro wq hbq)
          go_wp2_with fail
          (refine wp_region_below (by kernel_rfl) (by kernel_rfl) ?_; (repeat (first | go_big_quiet_skip | (refine quietV (v := ?_) (by rfl) rfl (fun w' hbw => ?_) ?_; rotate_left; ((try dsimp only at hbw); have hbc := (bcell hbw).1; have hbf := (bcell hbw).2; go_simp; first | done | with_reducible rfl | fail); simp only [List.setIfInBounds_toArray, List.set_cons_zero, List.set_cons_succ]))); refine wpQuiet_nil ?_; intro wz hbz)
          have c1 : wz.cell? ⟨gx, ox + i * 2, none⟩ = some (.int .i64 x) := (hbz.cell (Nat.lt_of_lt_of_le hgx2 hbq.size)).trans ((hbq.cell hgx2).trans f1)
          have c2 : wz.cell? ⟨gx, ox + i * 2 + 1, none⟩ = some (.int .i64 y) := (hbz.cell (Nat.lt_of_lt_of_le hgx2 hbq.size)).trans ((hbq.cell hgx2).trans f2)
          have hgxz : gx < wz.heap.size := Nat.lt_of_lt_of_le hgx2 (Nat.le_trans hbq.size hbz.size)
          replace HLR := Lib.hid ((HLR.out.below hbq).below hbz)
          replace HB := Lib.hid (bel_trans (bel_trans HB.out hbq) hbz)
          replace HBS : Hid (w.heap.size ≤ wz.heap.size) := (HB.out).size
          clear f1 f2
          go_wp2_with fail
          obtain ⟨i0, hi, hz0, hz1, hz2⟩ := info_parts infoC
          have hs1 : ∀ w', (Instr.slice 22 (.slice (some ⟨g, 0, none⟩) m cp) none (some (.int .i64 (k : Int))) none).run Try.prog w' = .ok (.slice (some ⟨g, 0, none⟩) k cp) w' := fun w' => run_uptoC w' g m cp k (by omega)
          have hs2 : ∀ w', (Instr.slice 22 (.slice (some ⟨g, 0, none⟩) m cp) (some (.int .i64 (k : Int))) none none).run Try.prog w' = .ok (.slice (some ⟨g, offC cp k, none⟩) (m - k) (cp - k)) w' := fun w' => run_fromC w' g m cp k (by omega)
          have R2 : Hid (Rd wz (some ⟨g, offC cp k, none⟩) (vC (l.drop k))) := Rd.fromC HLR.out HLM.out (by omega)
          have R1 : Hid (Rd wz (some ⟨g, 0, none⟩) (vC (l.take k))) := by show Rd _ _ _; rw [vC_take]; exact Rd.take HLR.out _
          have L1 : Hid ((l.take k).length = k) := by show (l.take k).length = k; rw [List.length_take, HLM.out]; omega
          have L2 : Hid ((l.drop k).length = m - k) := by show (l.drop k).length = m - k; rw [List.length_drop, HLM.out]
          have HI := Lib.hid hi
          have HZ0 := Lib.hid hz0
          have HZ1 := Lib.hid hz1
          have HZ2 := Lib.hid hz2
          clear hi hz0 hz1 hz2
          refine wp_region_rg 16 rfl (by kernel_rfl) ?_
          (refine rgT (i := 1) (v := ?_) rfl rfl (by kernel_rfl) (by kernel_rfl) (by kernel_rfl) (by rfl) (fun w' hcw => ?_) ?_; rotate_left; ((try dsimp only at hcw); have hbc := hcw.cells; go_simp; first | done | with_reducible rfl); simp only [List.setIfInBounds_toArray, List.set_cons_zero, List.set_cons_succ])
          (refine rgT (i := 2) (v := ?_) rfl rfl (by kernel_rfl) (by kernel_rfl) (by kernel_rfl) (by rfl) (fun w' hcw => ?_) ?_; rotate_left; ((try dsimp only at hcw); have hbc := hcw.cells; go_simp; first | done | with_reducible rfl); simp only [List.setIfInBounds_toArray, List.set_cons_zero, List.set_cons_succ])
          (refine rgT (i := 3) (v := ?_) rfl rfl (by kernel_rfl) (by kernel_rfl) (by kernel_rfl) (by rfl) (fun w' hcw => ?_) ?_; rotate_left; ((try dsimp only at hcw); have hbc := hcw.cells; go_simp; first | done | with_reducible rfl); simp only [List.setIfInBounds_toArray, List.set_cons_zero, List.set_cons_succ])
          (refine rgT (i := 5) (v := ?_) rfl rfl (by kernel_rfl) (by kernel_rfl) (by kernel_rfl) (by rfl) (fun w' hcw => ?_) ?_; rotate_left; ((try dsimp only at hcw); have hbc := hcw.cells; go_simp; first | done | with_reducible rfl); simp only [List.setIfInBounds_toArray, List.set_cons_zero, List.set_cons_succ])
          (refine rgT (i := 6) (v := ?_) rfl rfl (by kernel_rfl) (by kernel_rfl) (by kernel_rfl) (by rfl) (fun w' hcw => ?_) ?_; rotate_left; ((try dsimp only at hcw); have hbc := hcw.cells; go_simp; first | done | with_reducible rfl); simp only [List.setIfInBounds_toArray, List.set_cons_zero, List.set_cons_succ])
          (refine rgT (i := 7) (v := ?_) rfl rfl (by kernel_rfl) (by kernel_rfl) (by kernel_rfl) (by rfl) (fun w' hcw => ?_) ?_; rotate_left; ((try dsimp only at hcw); have hbc := hcw.cells; go_simp; first | done | with_reducible rfl); simp only [List.setIfInBounds_toArray, List.set_cons_zero, List.set_cons_succ])
          (refine rgT (i := 8) (v := ?_) rfl rfl (by kernel_rfl) (by kernel_rfl) (by kernel_rfl) (by rfl) (fun w' hcw => ?_) ?_; rotate_left; ((try dsimp only at hcw); have hbc := hcw.cells; go_simp; first | done | with_reducible rfl); simp only [List.setIfInBounds_toArray, List.set_cons_zero, List.set_cons_succ])
          (refine rgT (i := 11) (v := ?_) rfl rfl (by kernel_rfl) (by kernel_rfl) (by kernel_rfl) (by rfl) (fun w' hcw => ?_) ?_; rotate_left; ((try dsimp only at hcw); have hbc := hcw.cells; go_simp; first | done | with_reducible rfl); simp only [List.setIfInBounds_toArray, List.set_cons_zero, List.set_cons_succ])
          (refine rgT (i := 12) (v := ?_) rfl rfl (by kernel_rfl) (by kernel_rfl) (by kernel_rfl) (by rfl) (fun w' hcw => ?_) ?_; rotate_left; ((try dsimp only at hcw); have hbc := hcw.cells; go_simp; first | done | with_reducible rfl); simp only [List.setIfInBounds_toArray, List.set_cons_zero, List.set_cons_succ])
          (refine rgT (i := 13) (v := ?_) rfl rfl (by kernel_rfl) (by kernel_rfl) (by kernel_rfl) (by rfl) (fun w' hcw => ?_) ?_; rotate_left; ((try dsimp only at hcw); have hbc := hcw.cells; go_simp; first | done | with_reducible rfl); simp only [List.setIfInBounds_toArray, List.set_cons_zero, List.set_cons_succ])
          refine ins_tail (T := 22) (e := 29) (i := i0) (z := .agg #[.int .i64 0, .int .i64 0]) (size := 2) (bytes := 16) (i0 := 0) (iA := 4) (iN := 9) (iB := 10) (iD := 14) (iE := 15) (s0 := 45) (sA := 49) (sN := 54) (sB := 55) (sD := 59) (dE := 3) (t1 := 48) (t2 := 58) (xn := .tmp 53) (vn := .agg #[.int .i64 x, .int .i64 y]) (news := vC [(x, y)]) (vs1 := vC (l.take k)) (vs2 := vC (l.drop k)) (A1 := some ⟨g, 0, none⟩) (m1 := k) (c1 := cp) (A2 := some ⟨g, offC cp k, none⟩) (m2 := m - k) (c2 := cp - k) _ ?ht ?hi ?hz ?h1 ?h2 rfl (by omega) ⟨⟨_, rfl, rfl, rfl, fun a w => ?p0⟩, ⟨_, rfl, rfl, rfl, rfl⟩, ⟨_, rfl, rfl, rfl, fun a w h => ?pN⟩, ⟨_, rfl, rfl, rfl, rfl⟩, ⟨_, rfl, rfl, rfl, rfl⟩, ⟨_, rfl, rfl, rfl, rfl⟩⟩ ⟨by simp, by decide, by decide, by decide⟩ (fun a h => (h.eval (by decide)).trans rfl) (by kernel_rfl) (by kernel_rfl) (by kernel_rfl) (by kernel_rfl) (by kernel_rfl) (by decide) (by decide) (by kernel_rfl) (by kernel_rfl) (by kernel_rfl) (by kernel_rfl) rfl ?q1 ?l1 ?o1 rfl ?q2 ?l2 ?o2 ?ln ?on ?hm ?hb ?hQ
          case ht => exact Try.underlying22
          case hi => exact HI.out
          case hz => exact HZ0.out
          case h1 => exact HZ1.out
          case h2 => exact HZ2.out
          case p0 => simp [go_sem, execOp]
          case pN => (generalize Act.eval a = ρ at h ⊢; simp [go_sem, execOp, h, vC])
          case q1 => exact R1.out
          case l1 => rw [vC_length, L1.out] <;> omega
          case o1 => exact vC_one _
          case q2 => exact R2.out
          case l2 => rw [vC_length, L2.out] <;> omega
          case o2 => exact vC_one _
          case ln => rfl
          case on => exact vC_one _
          case hm => omega
          case hb => omega
          case hQ =>
            intro a' w' A' c' hfr hev how hex
            obtain ⟨v0, vA, vN, vB, vD, rfl⟩ := hfr.form hev
            rw [← vC_append, ← vC_append, ← HV.out, ← HST.out] at how
            obtain ⟨g', rfl, _, _⟩ := own_at how (by omega)
            have HOW := Lib.hid (own_base how HBS.out)
            clear how hev hfr
            refine NoPanic.normal ?_
            simp only [List.setIfInBounds_toArray, List.set_cons_zero, List.set_cons_succ]
            go_wp2
            exact ⟨⟨i + 1, g', k + 1 + (m - k), c', by omega, by omega, by go_num, by rfl, HOW.out, bel_trans HB.out hex⟩, by simp [intOf]; omega⟩
    · have hin : i = n := by omega
      have hv : (xs.take i).foldl (putG befC) [] = sortC xs := by rw [List.take_of_length_le (by rw [HL.out]; omega)]; rfl
      rw [hv] at hown
      have HO := Lib.hid hown
      subst hin
      have hi1 : ¬ (i : Int) < (i : Int) := by omega
      clear hown hv
      go_wp2
      go_ret
      exact ⟨_, _, _, rfl, HO.out, hb⟩
end Go.Proofs.Ytegnedpikpfjfaa

/- The order of cells and shapes: walks of the reference. -/
namespace Go.Proofs.Ytegnedpikpfjfaa
open Go.RowKit
set_option linter.unusedVariables false
attribute [local go_sem ↓] Go.wp_at_zero Go.wp_at_succ

theorem onB_split (x y : Int) : onB (x, y) = ((decide (0 ≤ x) && decide (x ≤ 7)) && (decide (0 ≤ y) && decide (y ≤ 7))) := rfl
set_option maxHeartbeats 1600000 in
theorem IsShape_s (A : Option Addr) (n c : Nat) (xs : List C) (w : World) (hr : Rd w A (vC xs)) (hl : xs.length = n) (hn : n ≤ 1099511627776) :
    Calls Try.prog 12 #[.slice A n c] w (Ret w (.bool (isShape xs))) := by
  have HL := Lib.hid hl
  clear hl
  go_enter Try.func12, Try.ntmps12
  go_wp2
  go_loopw [3] (fun i wr => ∃ k : Nat, k ≤ n ∧ i = .int .i64 k ∧ shapeTo xs k = true ∧ Below w.heap.size w wr) (fun i _ => n - (intOf i).toNat)
  case atStart => exact ⟨0, Nat.zero_le _, rfl, rfl, Below.refl _ _⟩
  case round =>
    obtain ⟨k, hk, rfl, hgo, hb⟩ := hrel
    by_cases hlt : k < n
    · have hkx : k < xs.length := by rw [HL.out]; omega
      obtain ⟨g, off, rfl, hgw, c1, c2⟩ := RdC.at_ (hr.below hb) hkx
      have hs := shapeTo_succ xs k hkx
      have hno := isShape_no xs k hkx
      obtain ⟨⟨x, y⟩, hx⟩ : ∃ p, xs[k] = p := ⟨_, rfl⟩
      rw [hx] at c1 c2 hs hno
      have hi0 : (0 : Int) ≤ (k : Int) := by omega
      have hi1 : (k : Int) < (n : Int) := by omega
      have HS := Lib.hid hs
      have HNO := Lib.hid hno
      have HG := Lib.hid hgo
      have hrw := hr.below hb
      clear hs hno hgo hx
      go_upto_region 4 with fail
      go_cut [42] (fun s wx => s = .bool (!shapeAt xs k (x, y)) ∧ Below wr.heap.size wr wx)
      case first =>
        cases hbx : (decide (0 ≤ x) && decide (x ≤ 7)) with
        | false =>
          have HV : Hid (shapeAt xs k (x, y) = false) := by unfold Hid shapeAt; rw [onB_split, hbx]; rfl
          have HX := Lib.hid hbx.symm
          clear hbx
          refine wp_region_noPanic ?_
          refine wp_region_held_drew (S := (fun w' => w'.cell? ⟨g, off + k * 2, none⟩ = some (.int .i64 x) ∧ w'.cell? ⟨g, off + k * 2 + 1, none⟩ = some (.int .i64 y))) (by kernel_rfl) ?_ (fun hS => ?_)
          · ((go_split_ands; (try dsimp only); (repeat' (with_reducible apply And.intro)) <;> (repeat (first | with_reducible assumption | with_reducible apply keep_alloc | with_reducible apply keep_drew | with_reducible refine keep_below hb1 ?_ | ((with_reducible refine keep_set ?_ ?_); rotate_left; (simp <;> omega))))))
          refine wpT (i := 0) (v := ?_) rfl rfl (by kernel_rfl) (by kernel_rfl) (by kernel_rfl) (fun _ _ _ h => h) (Or.inl ⟨by rfl, ?_⟩) hS ?_
          rotate_left
          · (intro w hSw; (try dsimp only at hSw); go_simp; first | done | with_reducible rfl)
          simp only [List.setIfInBounds_toArray, List.set_cons_zero, List.set_cons_succ]
          refine wpT (i := 1) (v := ?_) rfl rfl (by kernel_rfl) (by kernel_rfl) (by kernel_rfl) (fun _ _ _ h => h) (Or.inl ⟨by rfl, ?_⟩) hS ?_
          rotate_left
          · (intro w hSw; (try dsimp only at hSw); go_simp; first | done | with_reducible rfl)
          simp only [List.setIfInBounds_toArray, List.set_cons_zero, List.set_cons_succ]
          refine wpT (i := 2) (v := ?_) rfl rfl (by kernel_rfl) (by kernel_rfl) (by kernel_rfl) (fun _ _ _ h => h) (Or.inl ⟨by rfl, ?_⟩) hS ?_
          rotate_left
          · (intro w hSw; (try dsimp only at hSw); go_simp; first | done | with_reducible rfl)
          simp only [List.setIfInBounds_toArray, List.set_cons_zero, List.set_cons_succ]
          refine wpT (i := 3) (v := ?_) rfl rfl (by kernel_rfl) (by kernel_rfl) (by kernel_rfl) (fun _ _ _ h => h) (Or.inl ⟨by rfl, ?_⟩) hS ?_
          rotate_left
          · (intro w hSw; (try dsimp only at hSw); go_simp; first | done | with_reducible rfl)
          simp only [List.setIfInBounds_toArray, List.set_cons_zero, List.set_cons_succ]
          refine wpT (i := 4) (v := ?_) rfl rfl (by kernel_rfl) (by kernel_rfl) (by kernel_rfl) (fun _ _ _ h => h) (Or.inl ⟨by rfl, ?_⟩) hS ?_
          rotate_left
          · (intro w hSw; (try dsimp only at hSw); go_simp; first | done | with_reducible rfl)
          simp only [List.setIfInBounds_toArray, List.set_cons_zero, List.set_cons_succ]
          refine wpAnyH_ready (rs := [5]) (by kernel_rfl) (by simp) ?_
          refine AllReadyH.cons rfl (fun K hK => ?_) AllReadyH.nil
          go_simp
          (go_at_call 18; refine (l1In_b _ _ _ _ _ HX.out).mono ?_; rintro e w1 ⟨rfl, hb1⟩)
          try go_wp2_with fail
          refine hK.out _ _ ?_ (fun hS2 => ?_)
          · (clear hK K; ((go_split_ands; (try dsimp only); (repeat' (with_reducible apply And.intro)) <;> (repeat (first | with_reducible assumption | with_reducible apply keep_alloc | with_reducible apply keep_drew | with_reducible refine keep_below hb1 ?_ | ((with_reducible refine keep_set ?_ ?_); rotate_left; (simp <;> omega)))))))
          clear hS hK K
          have hS := hS2
          clear hS2
          refine wpT (i := 6) (v := ?_) rfl rfl (by kernel_rfl) (by kernel_rfl) (by kernel_rfl) (fun _ _ _ h => h) (Or.inl ⟨by rfl, ?_⟩) hS ?_
          rotate_left
          · (intro w hSw; (try dsimp only at hSw); go_simp; first | done | with_reducible rfl)
          simp only [List.setIfInBounds_toArray, List.set_cons_zero, List.set_cons_succ]
          refine wpT (i := 7) (v := ?_) rfl rfl (by kernel_rfl) (by kernel_rfl) (by kernel_rfl) (fun _ _ _ h => h) (Or.inl ⟨by rfl, ?_⟩) hS ?_
          rotate_left
          · (intro w hSw; (try dsimp only at hSw); go_simp; first | done | with_reducible rfl)
          simp only [List.setIfInBounds_toArray, List.set_cons_zero, List.set_cons_succ]
          refine wpT (i := 8) (v := undef) rfl rfl (by kernel_rfl) (by kernel_rfl) (by kernel_rfl) (fun _ _ _ h => h) (Or.inr ⟨by rfl, rfl⟩) hS ?_
          simp only [List.setIfInBounds_toArray, List.set_cons_zero, List.set_cons_succ]
          refine wpT (i := 9) (v := undef) rfl rfl (by kernel_rfl) (by kernel_rfl) (by kernel_rfl) (fun _ _ _ h => h) (Or.inr ⟨by rfl, rfl⟩) hS ?_
          simp only [List.setIfInBounds_toArray, List.set_cons_zero, List.set_cons_succ]
          refine wpT (i := 10) (v := undef) rfl rfl (by kernel_rfl) (by kernel_rfl) (by kernel_rfl) (fun _ _ _ h => h) (Or.inr ⟨by rfl, rfl⟩) hS ?_
          simp only [List.setIfInBounds_toArray, List.set_cons_zero, List.set_cons_succ]
          refine wpT (i := 11) (v := undef) rfl rfl (by kernel_rfl) (by kernel_rfl) (by kernel_rfl) (fun _ _ _ h => h) (Or.inr ⟨by rfl, rfl⟩) hS ?_
          simp only [List.setIfInBounds_toArray, List.set_cons_zero, List.set_cons_succ]
          refine wpT (i := 12) (v := undef) rfl rfl (by kernel_rfl) (by kernel_rfl) (by kernel_rfl) (fun _ _ _ h => h) (Or.inr ⟨by rfl, rfl⟩) hS ?_
          simp only [List.setIfInBounds_toArray, List.set_cons_zero, List.set_cons_succ]
          refine wpT (i := 13) (v := undef) rfl rfl (by kernel_rfl) (by kernel_rfl) (by kernel_rfl) (fun _ _ _ h => h) (Or.inr ⟨by rfl, rfl⟩) hS ?_
          simp only [List.setIfInBounds_toArray, List.set_cons_zero, List.set_cons_succ]
          refine wpT (i := 14) (v := undef) rfl rfl (by kernel_rfl) (by kernel_rfl) (by kernel_rfl) (fun _ _ _ h => h) (Or.inr ⟨by rfl, rfl⟩) hS ?_
          simp only [List.setIfInBounds_toArray, List.set_cons_zero, List.set_cons_succ]
          refine wpT (i := 15) (v := ?_) rfl rfl (by kernel_rfl) (by kernel_rfl) (by kernel_rfl) (fun _ _ _ h => h) (Or.inl ⟨by rfl, ?_⟩) hS ?_
          rotate_left
          · (intro w hSw; (try dsimp only at hSw); go_simp; first | done | with_reducible rfl)
          simp only [List.setIfInBounds_toArray, List.set_cons_zero, List.set_cons_succ]
          refine wpT (i := 16) (v := ?_) rfl rfl (by kernel_rfl) (by kernel_rfl) (by kernel_rfl) (fun _ _ _ h => h) (Or.inl ⟨by rfl, ?_⟩) hS ?_
          rotate_left
          · (intro w hSw; (try dsimp only at hSw); go_simp; first | done | with_reducible rfl)
          simp only [List.setIfInBounds_toArray, List.set_cons_zero, List.set_cons_succ]
          refine wpT (i := 17) (v := undef) rfl rfl (by kernel_rfl) (by kernel_rfl) (by kernel_rfl) (fun _ _ _ h => h) (Or.inr ⟨by rfl, rfl⟩) hS ?_
          simp only [List.setIfInBounds_toArray, List.set_cons_zero, List.set_cons_succ]
          refine wpT (i := 18) (v := undef) rfl rfl (by kernel_rfl) (by kernel_rfl) (by kernel_rfl) (fun _ _ _ h => h) (Or.inr ⟨by rfl, rfl⟩) hS ?_
          simp only [List.setIfInBounds_toArray, List.set_cons_zero, List.set_cons_succ]
          refine wpT (i := 19) (v := undef) rfl rfl (by kernel_rfl) (by kernel_rfl) (by kernel_rfl) (fun _ _ _ h => h) (Or.inr ⟨by rfl, rfl⟩) hS ?_
          simp only [List.setIfInBounds_toArray, List.set_cons_zero, List.set_cons_succ]
          refine wpT (i := 20) (v := undef) rfl rfl (by kernel_rfl) (by kernel_rfl) (by kernel_rfl) (fun _ _ _ h => h) (Or.inr ⟨by rfl, rfl⟩) hS ?_
          simp only [List.setIfInBounds_toArray, List.set_cons_zero, List.set_cons_succ]
          refine wpT (i := 21) (v := undef) rfl rfl (by kernel_rfl) (by kernel_rfl) (by kernel_rfl) (fun _ _ _ h => h) (Or.inr ⟨by rfl, rfl⟩) hS ?_
          simp only [List.setIfInBounds_toArray, List.set_cons_zero, List.set_cons_succ]
          refine wpT (i := 22) (v := undef) rfl rfl (by kernel_rfl) (by kernel_rfl) (by kernel_rfl) (fun _ _ _ h => h) (Or.inr ⟨by rfl, rfl⟩) hS ?_
          simp only [List.setIfInBounds_toArray, List.set_cons_zero, List.set_cons_succ]
          refine wpT (i := 23) (v := undef) rfl rfl (by kernel_rfl) (by kernel_rfl) (by kernel_rfl) (fun _ _ _ h => h) (Or.inr ⟨by rfl, rfl⟩) hS ?_
          simp only [List.setIfInBounds_toArray, List.set_cons_zero, List.set_cons_succ]
          refine wpT (i := 24) (v := undef) rfl rfl (by kernel_rfl) (by kernel_rfl) (by kernel_rfl) (fun _ _ _ h => h) (Or.inr ⟨by rfl, rfl⟩) hS ?_
          simp only [List.setIfInBounds_toArray, List.set_cons_zero, List.set_cons_succ]
          refine wpT (i := 25) (v := undef) rfl rfl (by kernel_rfl) (by kernel_rfl) (by kernel_rfl) (fun _ _ _ h => h) (Or.inr ⟨by rfl, rfl⟩) hS ?_
          simp only [List.setIfInBounds_toArray, List.set_cons_zero, List.set_cons_succ]
          refine wpT (i := 26) (v := undef) rfl rfl (by kernel_rfl) (by kernel_rfl) (by kernel_rfl) (fun _ _ _ h => h) (Or.inr ⟨by rfl, rfl⟩) hS ?_
          simp only [List.setIfInBounds_toArray, List.set_cons_zero, List.set_cons_succ]
          refine wpT (i := 27) (v := undef) rfl rfl (by kernel_rfl) (by kernel_rfl) (by kernel_rfl) (fun _ _ _ h => h) (Or.inr ⟨by rfl, rfl⟩) hS ?_
          simp only [List.setIfInBounds_toArray, List.set_cons_zero, List.set_cons_succ]
          refine wpT (i := 28) (v := undef) rfl rfl (by kernel_rfl) (by kernel_rfl) (by kernel_rfl) (fun _ _ _ h => h) (Or.inr ⟨by rfl, rfl⟩) hS ?_
          simp only [List.setIfInBounds_toArray, List.set_cons_zero, List.set_cons_succ]
          refine wpT (i := 29) (v := undef) rfl rfl (by kernel_rfl) (by kernel_rfl) (by kernel_rfl) (fun _ _ _ h => h) (Or.inr ⟨by rfl, rfl⟩) hS ?_
          simp only [List.setIfInBounds_toArray, List.set_cons_zero, List.set_cons_succ]
          refine wpT (i := 30) (v := undef) rfl rfl (by kernel_rfl) (by kernel_rfl) (by kernel_rfl) (fun _ _ _ h => h) (Or.inr ⟨by rfl, rfl⟩) hS ?_
          simp only [List.setIfInBounds_toArray, List.set_cons_zero, List.set_cons_succ]
          refine wpT (i := 31) (v := undef) rfl rfl (by kernel_rfl) (by kernel_rfl) (by kernel_rfl) (fun _ _ _ h => h) (Or.inr ⟨by rfl, rfl⟩) hS ?_
          simp only [List.setIfInBounds_toArray, List.set_cons_zero, List.set_cons_succ]
          refine wpT (i := 32) (v := ?_) rfl rfl (by kernel_rfl) (by kernel_rfl) (by kernel_rfl) (fun _ _ _ h => h) (Or.inl ⟨by rfl, ?_⟩) hS ?_
          rotate_left
          · (intro w hSw; (try dsimp only at hSw); go_simp; first | done | with_reducible rfl)
          simp only [List.setIfInBounds_toArray, List.set_cons_zero, List.set_cons_succ]
          refine wpAnyH_done (by kernel_rfl) ?_ _
          refine NoPanic.normal ?_
          go_wp2_with fail
          go_meet
          exact ⟨by rw [HV.out]; rfl, (by (repeat (first | with_reducible exact Below.refl _ _ | with_reducible assumption | with_reducible apply bel_alloc | with_reducible apply bel_drew | with_reducible apply bel_drewN | ((with_reducible refine bel_set ?_ ?_); rotate_left; (simp <;> omega)) | (with_reducible refine bel_trans ?_ (by with_reducible assumption)))))⟩
        | true =>
          cases hby : (decide (0 ≤ y) && decide (y ≤ 7)) with
          | false =>
            have HV : Hid (shapeAt xs k (x, y) = false) := by unfold Hid shapeAt; rw [onB_split, hbx, hby]; rfl
            have HX := Lib.hid hbx.symm
            have HY := Lib.hid hby.symm
            clear hbx hby
            refine wp_region_noPanic ?_
            refine wp_region_held_drew (S := (fun w' => w'.cell? ⟨g, off + k * 2, none⟩ = some (.int .i64 x) ∧ w'.cell? ⟨g, off + k * 2 + 1, none⟩ = some (.int .i64 y))) (by kernel_rfl) ?_ (fun hS => ?_)
            · ((go_split_ands; (try dsimp only); (repeat' (with_reducible apply And.intro)) <;> (repeat (first | with_reducible assumption | with_reducible apply keep_alloc | with_reducible apply keep_drew | with_reducible refine keep_below hb1 ?_ | ((with_reducible refine keep_set ?_ ?_); rotate_left; (simp <;> omega))))))
            refine wpT (i := 0) (v := ?_) rfl rfl (by kernel_rfl) (by kernel_rfl) (by kernel_rfl) (fun _ _ _ h => h) (Or.inl ⟨by rfl, ?_⟩) hS ?_
            rotate_left
            · (intro w hSw; (try dsimp only at hSw); go_simp; first | done | with_reducible rfl)
            simp only [List.setIfInBounds_toArray, List.set_cons_zero, List.set_cons_succ]
            refine wpT (i := 1) (v := ?_) rfl rfl (by kernel_rfl) (by kernel_rfl) (by kernel_rfl) (fun _ _ _ h => h) (Or.inl ⟨by rfl, ?_⟩) hS ?_
            rotate_left
            · (intro w hSw; (try dsimp only at hSw); go_simp; first | done | with_reducible rfl)
            simp only [List.setIfInBounds_toArray, List.set_cons_zero, List.set_cons_succ]
            refine wpT (i := 2) (v := ?_) rfl rfl (by kernel_rfl) (by kernel_rfl) (by kernel_rfl) (fun _ _ _ h => h) (Or.inl ⟨by rfl, ?_⟩) hS ?_
            rotate_left
            · (intro w hSw; (try dsimp only at hSw); go_simp; first | done | with_reducible rfl)
            simp only [List.setIfInBounds_toArray, List.set_cons_zero, List.set_cons_succ]
            refine wpT (i := 3) (v := ?_) rfl rfl (by kernel_rfl) (by kernel_rfl) (by kernel_rfl) (fun _ _ _ h => h) (Or.inl ⟨by rfl, ?_⟩) hS ?_
            rotate_left
            · (intro w hSw; (try dsimp only at hSw); go_simp; first | done | with_reducible rfl)
            simp only [List.setIfInBounds_toArray, List.set_cons_zero, List.set_cons_succ]
            refine wpT (i := 4) (v := ?_) rfl rfl (by kernel_rfl) (by kernel_rfl) (by kernel_rfl) (fun _ _ _ h => h) (Or.inl ⟨by rfl, ?_⟩) hS ?_
            rotate_left
            · (intro w hSw; (try dsimp only at hSw); go_simp; first | done | with_reducible rfl)
            simp only [List.setIfInBounds_toArray, List.set_cons_zero, List.set_cons_succ]
            refine wpAnyH_ready (rs := [5]) (by kernel_rfl) (by simp) ?_
            refine AllReadyH.cons rfl (fun K hK => ?_) AllReadyH.nil
            go_simp
            (go_at_call 18; refine (l1In_b _ _ _ _ _ HX.out).mono ?_; rintro e w1 ⟨rfl, hb1⟩)
            try go_wp2_with fail
            refine hK.out _ _ ?_ (fun hS2 => ?_)
            · (clear hK K; ((go_split_ands; (try dsimp only); (repeat' (with_reducible apply And.intro)) <;> (repeat (first | with_reducible assumption | with_reducible apply keep_alloc | with_reducible apply keep_drew | with_reducible refine keep_below hb1 ?_ | ((with_reducible refine keep_set ?_ ?_); rotate_left; (simp <;> omega)))))))
            clear hS hK K
            have hS := hS2
            clear hS2
            refine wpT (i := 6) (v := ?_) rfl rfl (by kernel_rfl) (by kernel_rfl) (by kernel_rfl) (fun _ _ _ h => h) (Or.inl ⟨by rfl, ?_⟩) hS ?_
            rotate_left
            · (intro w hSw; (try dsimp only at hSw); go_simp; first | done | with_reducible rfl)
            simp only [List.setIfInBounds_toArray, List.set_cons_zero, List.set_cons_succ]
            refine wpT (i := 7) (v := ?_) rfl rfl (by kernel_rfl) (by kernel_rfl) (by kernel_rfl) (fun _ _ _ h => h) (Or.inl ⟨by rfl, ?_⟩) hS ?_
            rotate_left
            · (intro w hSw; (try dsimp only at hSw); go_simp; first | done | with_reducible rfl)
            simp only [List.setIfInBounds_toArray, List.set_cons_zero, List.set_cons_succ]
            refine wpT (i := 8) (v := ?_) rfl rfl (by kernel_rfl) (by kernel_rfl) (by kernel_rfl) (fun _ _ _ h => h) (Or.inl ⟨by rfl, ?_⟩) hS ?_
            rotate_left
            · (intro w hSw; (try dsimp only at hSw); go_simp; first | done | with_reducible rfl)
            simp only [List.setIfInBounds_toArray, List.set_cons_zero, List.set_cons_succ]
            refine wpT (i := 9) (v := ?_) rfl rfl (by kernel_rfl) (by kernel_rfl) (by kernel_rfl) (fun _ _ _ h => h) (Or.inl ⟨by rfl, ?_⟩) hS ?_
            rotate_left
            · (intro w hSw; (try dsimp only at hSw); go_simp; first | done | with_reducible rfl)
            simp only [List.setIfInBounds_toArray, List.set_cons_zero, List.set_cons_succ]
            refine wpT (i := 10) (v := ?_) rfl rfl (by kernel_rfl) (by kernel_rfl) (by kernel_rfl) (fun _ _ _ h => h) (Or.inl ⟨by rfl, ?_⟩) hS ?_
            rotate_left
            · (intro w hSw; (try dsimp only at hSw); go_simp; first | done | with_reducible rfl)
            simp only [List.setIfInBounds_toArray, List.set_cons_zero, List.set_cons_succ]
            refine wpT (i := 11) (v := ?_) rfl rfl (by kernel_rfl) (by kernel_rfl) (by kernel_rfl) (fun _ _ _ h => h) (Or.inl ⟨by rfl, ?_⟩) hS ?_
            rotate_left
            · (intro w hSw; (try dsimp only at hSw); go_simp; first | done | with_reducible rfl)
            simp only [List.setIfInBounds_toArray, List.set_cons_zero, List.set_cons_succ]
            refine wpT (i := 12) (v := ?_) rfl rfl (by kernel_rfl) (by kernel_rfl) (by kernel_rfl) (fun _ _ _ h => h) (Or.inl ⟨by rfl, ?_⟩) hS ?_
            rotate_left
            · (intro w hSw; (try dsimp only at hSw); go_simp; first | done | with_reducible rfl)
            simp only [List.setIfInBounds_toArray, List.set_cons_zero, List.set_cons_succ]
            refine wpAnyH_ready (rs := [13]) (by kernel_rfl) (by simp) ?_
            refine AllReadyH.cons rfl (fun K hK => ?_) AllReadyH.nil
            go_simp
            (go_at_call 18; refine (l1In_b _ _ _ _ _ HY.out).mono ?_; rintro e w2 ⟨rfl, hb2⟩)
            try go_wp2_with fail
            refine hK.out _ _ ?_ (fun hS2 => ?_)
            · (clear hK K; ((go_split_ands; (try dsimp only); (repeat' (with_reducible apply And.intro)) <;> (repeat (first | with_reducible assumption | with_reducible apply keep_alloc | with_reducible apply keep_drew | with_reducible refine keep_below hb2 ?_ | ((with_reducible refine keep_set ?_ ?_); rotate_left; (simp <;> omega)))))))
            clear hS hK K
            have hS := hS2
            clear hS2
            refine wpT (i := 14) (v := ?_) rfl rfl (by kernel_rfl) (by kernel_rfl) (by kernel_rfl) (fun _ _ _ h => h) (Or.inl ⟨by rfl, ?_⟩) hS ?_
            rotate_left
            · (intro w hSw; (try dsimp only at hSw); go_simp; first | done | with_reducible rfl)
            simp only [List.setIfInBounds_toArray, List.set_cons_zero, List.set_cons_succ]
            refine wpT (i := 15) (v := ?_) rfl rfl (by kernel_rfl) (by kernel_rfl) (by kernel_rfl) (fun _ _ _ h => h) (Or.inl ⟨by rfl, ?_⟩) hS ?_
            rotate_left
            · (intro w hSw; (try dsimp only at hSw); go_simp; first | done | with_reducible rfl)
            simp only [List.setIfInBounds_toArray, List.set_cons_zero, List.set_cons_succ]
            refine wpT (i := 16) (v := ?_) rfl rfl (by kernel_rfl) (by kernel_rfl) (by kernel_rfl) (fun _ _ _ h => h) (Or.inl ⟨by rfl, ?_⟩) hS ?_
            rotate_left
            · (intro w hSw; (try dsimp only at hSw); go_simp; first | done | with_reducible rfl)
            simp only [List.setIfInBounds_toArray, List.set_cons_zero, List.set_cons_succ]
            refine wpT (i := 17) (v := undef) rfl rfl (by kernel_rfl) (by kernel_rfl) (by kernel_rfl) (fun _ _ _ h => h) (Or.inr ⟨by rfl, rfl⟩) hS ?_
            simp only [List.setIfInBounds_toArray, List.set_cons_zero, List.set_cons_succ]
            refine wpT (i := 18) (v := undef) rfl rfl (by kernel_rfl) (by kernel_rfl) (by kernel_rfl) (fun _ _ _ h => h) (Or.inr ⟨by rfl, rfl⟩) hS ?_
            simp only [List.setIfInBounds_toArray, List.set_cons_zero, List.set_cons_succ]
            refine wpT (i := 19) (v := undef) rfl rfl (by kernel_rfl) (by kernel_rfl) (by kernel_rfl) (fun _ _ _ h => h) (Or.inr ⟨by rfl, rfl⟩) hS ?_
            simp only [List.setIfInBounds_toArray, List.set_cons_zero, List.set_cons_succ]
            refine wpT (i := 20) (v := undef) rfl rfl (by kernel_rfl) (by kernel_rfl) (by kernel_rfl) (fun _ _ _ h => h) (Or.inr ⟨by rfl, rfl⟩) hS ?_
            simp only [List.setIfInBounds_toArray, List.set_cons_zero, List.set_cons_succ]
            refine wpT (i := 21) (v := undef) rfl rfl (by kernel_rfl) (by kernel_rfl) (by kernel_rfl) (fun _ _ _ h => h) (Or.inr ⟨by rfl, rfl⟩) hS ?_
            simp only [List.setIfInBounds_toArray, List.set_cons_zero, List.set_cons_succ]
            refine wpT (i := 22) (v := undef) rfl rfl (by kernel_rfl) (by kernel_rfl) (by kernel_rfl) (fun _ _ _ h => h) (Or.inr ⟨by rfl, rfl⟩) hS ?_
            simp only [List.setIfInBounds_toArray, List.set_cons_zero, List.set_cons_succ]
            refine wpT (i := 23) (v := undef) rfl rfl (by kernel_rfl) (by kernel_rfl) (by kernel_rfl) (fun _ _ _ h => h) (Or.inr ⟨by rfl, rfl⟩) hS ?_
            simp only [List.setIfInBounds_toArray, List.set_cons_zero, List.set_cons_succ]
            refine wpT (i := 24) (v := undef) rfl rfl (by kernel_rfl) (by kernel_rfl) (by kernel_rfl) (fun _ _ _ h => h) (Or.inr ⟨by rfl, rfl⟩) hS ?_
            simp only [List.setIfInBounds_toArray, List.set_cons_zero, List.set_cons_succ]
            refine wpT (i := 25) (v := undef) rfl rfl (by kernel_rfl) (by kernel_rfl) (by kernel_rfl) (fun _ _ _ h => h) (Or.inr ⟨by rfl, rfl⟩) hS ?_
            simp only [List.setIfInBounds_toArray, List.set_cons_zero, List.set_cons_succ]
            refine wpT (i := 26) (v := undef) rfl rfl (by kernel_rfl) (by kernel_rfl) (by kernel_rfl) (fun _ _ _ h => h) (Or.inr ⟨by rfl, rfl⟩) hS ?_
            simp only [List.setIfInBounds_toArray, List.set_cons_zero, List.set_cons_succ]
            refine wpT (i := 27) (v := undef) rfl rfl (by kernel_rfl) (by kernel_rfl) (by kernel_rfl) (fun _ _ _ h => h) (Or.inr ⟨by rfl, rfl⟩) hS ?_
            simp only [List.setIfInBounds_toArray, List.set_cons_zero, List.set_cons_succ]
            refine wpT (i := 28) (v := undef) rfl rfl (by kernel_rfl) (by kernel_rfl) (by kernel_rfl) (fun _ _ _ h => h) (Or.inr ⟨by rfl, rfl⟩) hS ?_
            simp only [List.setIfInBounds_toArray, List.set_cons_zero, List.set_cons_succ]
            refine wpT (i := 29) (v := undef) rfl rfl (by kernel_rfl) (by kernel_rfl) (by kernel_rfl) (fun _ _ _ h => h) (Or.inr ⟨by rfl, rfl⟩) hS ?_
            simp only [List.setIfInBounds_toArray, List.set_cons_zero, List.set_cons_succ]
            refine wpT (i := 30) (v := undef) rfl rfl (by kernel_rfl) (by kernel_rfl) (by kernel_rfl) (fun _ _ _ h => h) (Or.inr ⟨by rfl, rfl⟩) hS ?_
            simp only [List.setIfInBounds_toArray, List.set_cons_zero, List.set_cons_succ]
            refine wpT (i := 31) (v := undef) rfl rfl (by kernel_rfl) (by kernel_rfl) (by kernel_rfl) (fun _ _ _ h => h) (Or.inr ⟨by rfl, rfl⟩) hS ?_
            simp only [List.setIfInBounds_toArray, List.set_cons_zero, List.set_cons_succ]
            refine wpT (i := 32) (v := ?_) rfl rfl (by kernel_rfl) (by kernel_rfl) (by kernel_rfl) (fun _ _ _ h => h) (Or.inl ⟨by rfl, ?_⟩) hS ?_
            rotate_left
            · (intro w hSw; (try dsimp only at hSw); go_simp; first | done | with_reducible rfl)
            simp only [List.setIfInBounds_toArray, List.set_cons_zero, List.set_cons_succ]
            refine wpAnyH_done (by kernel_rfl) ?_ _
            refine NoPanic.normal ?_
            go_wp2_with fail
            go_meet
            exact ⟨by rw [HV.out]; rfl, (by (repeat (first | with_reducible exact Below.refl _ _ | with_reducible assumption | with_reducible apply bel_alloc | with_reducible apply bel_drew | with_reducible apply bel_drewN | ((with_reducible refine bel_set ?_ ?_); rotate_left; (simp <;> omega)) | (with_reducible refine bel_trans ?_ (by with_reducible assumption)))))⟩
          | true =>
            have ho : onB (x, y) = true := by rw [onB_split, hbx, hby]; rfl
            have HX := Lib.hid hbx.symm
            have HY := Lib.hid hby.symm
            clear hbx hby
            by_cases hk0 : 0 < k
            · obtain ⟨j, hj⟩ : ∃ j, k = j + 1 := ⟨k - 1, by omega⟩
              have hkj : (k : Int) - 1 = (j : Int) := by omega
              have hj0 : (0 : Int) ≤ (j : Int) := by omega
              have hj1 : (j : Int) < (n : Int) := by omega
              have hjw : IntKind.i64.wrap (j : Int) = (j : Int) := IntWalk.i64_in _ (by omega)
              have hk2 : (0 : Int) < (k : Int) := by omega
              have hjx : j < xs.length := by omega
              have d1 : wr.cell? ⟨g, off + j * 2, none⟩ = some (.int .i64 xs[j].1) := by
                obtain ⟨g', off', e, _, h1, _⟩ := RdC.at_ hrw hjx
                simp only [Option.some.injEq, Addr.mk.injEq, and_true] at e
                obtain ⟨rfl, rfl⟩ := e
                exact h1
              have d2 : wr.cell? ⟨g, off + j * 2 + 1, none⟩ = some (.int .i64 xs[j].2) := by
                obtain ⟨g', off', e, _, _, h1⟩ := RdC.at_ hrw hjx
                simp only [Option.some.injEq, Addr.mk.injEq, and_true] at e
                obtain ⟨rfl, rfl⟩ := e
                exact h1
              obtain ⟨⟨x', y'⟩, hx'⟩ : ∃ p, xs[j] = p := ⟨_, rfl⟩
              rw [hx'] at d1 d2
              have HV : Hid (shapeAt xs k (x, y) = befC (x', y') (x, y)) := by
                unfold Hid shapeAt
                rw [ho, Bool.true_and, show (k == 0) = false from by simp; omega, Bool.false_or, show k - 1 = j from by omega, List.getD_eq_getElem?_getD, List.getElem?_eq_getElem hjx, hx']; rfl
              clear ho hx' hj
              refine wp_region_noPanic ?_
              refine wp_region_held_drew (S := (fun w' => w'.cell? ⟨g, off + k * 2, none⟩ = some (.int .i64 x) ∧ w'.cell? ⟨g, off + k * 2 + 1, none⟩ = some (.int .i64 y) ∧ w'.cell? ⟨g, off + j * 2, none⟩ = some (.int .i64 x') ∧ w'.cell? ⟨g, off + j * 2 + 1, none⟩ = some (.int .i64 y'))) (by kernel_rfl) ?_ (fun hS => ?_)
              · ((go_split_ands; (try dsimp only); (repeat' (with_reducible apply And.intro)) <;> (repeat (first | with_reducible assumption | with_reducible apply keep_alloc | with_reducible apply keep_drew | with_reducible refine keep_below hb1 ?_ | ((with_reducible refine keep_set ?_ ?_); rotate_left; (simp <;> omega))))))
              refine wpT (i := 0) (v := ?_) rfl rfl (by kernel_rfl) (by kernel_rfl) (by kernel_rfl) (fun _ _ _ h => h) (Or.inl ⟨by rfl, ?_⟩) hS ?_
              rotate_left
              · (intro w hSw; (try dsimp only at hSw); go_simp; first | done | with_reducible rfl)
              simp only [List.setIfInBounds_toArray, List.set_cons_zero, List.set_cons_succ]
              refine wpT (i := 1) (v := ?_) rfl rfl (by kernel_rfl) (by kernel_rfl) (by kernel_rfl) (fun _ _ _ h => h) (Or.inl ⟨by rfl, ?_⟩) hS ?_
              rotate_left
              · (intro w hSw; (try dsimp only at hSw); go_simp; first | done | with_reducible rfl)
              simp only [List.setIfInBounds_toArray, List.set_cons_zero, List.set_cons_succ]
              refine wpT (i := 2) (v := ?_) rfl rfl (by kernel_rfl) (by kernel_rfl) (by kernel_rfl) (fun _ _ _ h => h) (Or.inl ⟨by rfl, ?_⟩) hS ?_
              rotate_left
              · (intro w hSw; (try dsimp only at hSw); go_simp; first | done | with_reducible rfl)
              simp only [List.setIfInBounds_toArray, List.set_cons_zero, List.set_cons_succ]
              refine wpT (i := 3) (v := ?_) rfl rfl (by kernel_rfl) (by kernel_rfl) (by kernel_rfl) (fun _ _ _ h => h) (Or.inl ⟨by rfl, ?_⟩) hS ?_
              rotate_left
              · (intro w hSw; (try dsimp only at hSw); go_simp; first | done | with_reducible rfl)
              simp only [List.setIfInBounds_toArray, List.set_cons_zero, List.set_cons_succ]
              refine wpT (i := 4) (v := ?_) rfl rfl (by kernel_rfl) (by kernel_rfl) (by kernel_rfl) (fun _ _ _ h => h) (Or.inl ⟨by rfl, ?_⟩) hS ?_
              rotate_left
              · (intro w hSw; (try dsimp only at hSw); go_simp; first | done | with_reducible rfl)
              simp only [List.setIfInBounds_toArray, List.set_cons_zero, List.set_cons_succ]
              refine wpAnyH_ready (rs := [5]) (by kernel_rfl) (by simp) ?_
              refine AllReadyH.cons rfl (fun K hK => ?_) AllReadyH.nil
              go_simp
              (go_at_call 18; refine (l1In_b _ _ _ _ _ HX.out).mono ?_; rintro e w1 ⟨rfl, hb1⟩)
              try go_wp2_with fail
              refine hK.out _ _ ?_ (fun hS2 => ?_)
              · (clear hK K; ((go_split_ands; (try dsimp only); (repeat' (with_reducible apply And.intro)) <;> (repeat (first | with_reducible assumption | with_reducible apply keep_alloc | with_reducible apply keep_drew | with_reducible refine keep_below hb1 ?_ | ((with_reducible refine keep_set ?_ ?_); rotate_left; (simp <;> omega)))))))
              clear hS hK K
              have hS := hS2
              clear hS2
              refine wpT (i := 6) (v := ?_) rfl rfl (by kernel_rfl) (by kernel_rfl) (by kernel_rfl) (fun _ _ _ h => h) (Or.inl ⟨by rfl, ?_⟩) hS ?_
              rotate_left
              · (intro w hSw; (try dsimp only at hSw); go_simp; first | done | with_reducible rfl)
              simp only [List.setIfInBounds_toArray, List.set_cons_zero, List.set_cons_succ]
              refine wpT (i := 7) (v := ?_) rfl rfl (by kernel_rfl) (by kernel_rfl) (by kernel_rfl) (fun _ _ _ h => h) (Or.inl ⟨by rfl, ?_⟩) hS ?_
              rotate_left
              · (intro w hSw; (try dsimp only at hSw); go_simp; first | done | with_reducible rfl)
              simp only [List.setIfInBounds_toArray, List.set_cons_zero, List.set_cons_succ]
              refine wpT (i := 8) (v := ?_) rfl rfl (by kernel_rfl) (by kernel_rfl) (by kernel_rfl) (fun _ _ _ h => h) (Or.inl ⟨by rfl, ?_⟩) hS ?_
              rotate_left
              · (intro w hSw; (try dsimp only at hSw); go_simp; first | done | with_reducible rfl)
              simp only [List.setIfInBounds_toArray, List.set_cons_zero, List.set_cons_succ]
              refine wpT (i := 9) (v := ?_) rfl rfl (by kernel_rfl) (by kernel_rfl) (by kernel_rfl) (fun _ _ _ h => h) (Or.inl ⟨by rfl, ?_⟩) hS ?_
              rotate_left
              · (intro w hSw; (try dsimp only at hSw); go_simp; first | done | with_reducible rfl)
              simp only [List.setIfInBounds_toArray, List.set_cons_zero, List.set_cons_succ]
              refine wpT (i := 10) (v := ?_) rfl rfl (by kernel_rfl) (by kernel_rfl) (by kernel_rfl) (fun _ _ _ h => h) (Or.inl ⟨by rfl, ?_⟩) hS ?_
              rotate_left
              · (intro w hSw; (try dsimp only at hSw); go_simp; first | done | with_reducible rfl)
              simp only [List.setIfInBounds_toArray, List.set_cons_zero, List.set_cons_succ]
              refine wpT (i := 11) (v := ?_) rfl rfl (by kernel_rfl) (by kernel_rfl) (by kernel_rfl) (fun _ _ _ h => h) (Or.inl ⟨by rfl, ?_⟩) hS ?_
              rotate_left
              · (intro w hSw; (try dsimp only at hSw); go_simp; first | done | with_reducible rfl)
              simp only [List.setIfInBounds_toArray, List.set_cons_zero, List.set_cons_succ]
              refine wpT (i := 12) (v := ?_) rfl rfl (by kernel_rfl) (by kernel_rfl) (by kernel_rfl) (fun _ _ _ h => h) (Or.inl ⟨by rfl, ?_⟩) hS ?_
              rotate_left
              · (intro w hSw; (try dsimp only at hSw); go_simp; first | done | with_reducible rfl)
              simp only [List.setIfInBounds_toArray, List.set_cons_zero, List.set_cons_succ]
              refine wpAnyH_ready (rs := [13]) (by kernel_rfl) (by simp) ?_
              refine AllReadyH.cons rfl (fun K hK => ?_) AllReadyH.nil
              go_simp
              (go_at_call 18; refine (l1In_b _ _ _ _ _ HY.out).mono ?_; rintro e w2 ⟨rfl, hb2⟩)
              try go_wp2_with fail
              refine hK.out _ _ ?_ (fun hS2 => ?_)
              · (clear hK K; ((go_split_ands; (try dsimp only); (repeat' (with_reducible apply And.intro)) <;> (repeat (first | with_reducible assumption | with_reducible apply keep_alloc | with_reducible apply keep_drew | with_reducible refine keep_below hb2 ?_ | ((with_reducible refine keep_set ?_ ?_); rotate_left; (simp <;> omega)))))))
              clear hS hK K
              have hS := hS2
              clear hS2
              refine wpT (i := 14) (v := ?_) rfl rfl (by kernel_rfl) (by kernel_rfl) (by kernel_rfl) (fun _ _ _ h => h) (Or.inl ⟨by rfl, ?_⟩) hS ?_
              rotate_left
              · (intro w hSw; (try dsimp only at hSw); go_simp; first | done | with_reducible rfl)
              simp only [List.setIfInBounds_toArray, List.set_cons_zero, List.set_cons_succ]
              refine wpT (i := 15) (v := ?_) rfl rfl (by kernel_rfl) (by kernel_rfl) (by kernel_rfl) (fun _ _ _ h => h) (Or.inl ⟨by rfl, ?_⟩) hS ?_
              rotate_left
              · (intro w hSw; (try dsimp only at hSw); go_simp; first | done | with_reducible rfl)
              simp only [List.setIfInBounds_toArray, List.set_cons_zero, List.set_cons_succ]
              refine wpT (i := 16) (v := ?_) rfl rfl (by kernel_rfl) (by kernel_rfl) (by kernel_rfl) (fun _ _ _ h => h) (Or.inl ⟨by rfl, ?_⟩) hS ?_
              rotate_left
              · (intro w hSw; (try dsimp only at hSw); go_simp; first | done | with_reducible rfl)
              simp only [List.setIfInBounds_toArray, List.set_cons_zero, List.set_cons_succ]
              refine wpT (i := 17) (v := ?_) rfl rfl (by kernel_rfl) (by kernel_rfl) (by kernel_rfl) (fun _ _ _ h => h) (Or.inl ⟨by rfl, ?_⟩) hS ?_
              rotate_left
              · (intro w hSw; (try dsimp only at hSw); go_simp; first | done | with_reducible rfl)
              simp only [List.setIfInBounds_toArray, List.set_cons_zero, List.set_cons_succ]
              refine wpT (i := 18) (v := ?_) rfl rfl (by kernel_rfl) (by kernel_rfl) (by kernel_rfl) (fun _ _ _ h => h) (Or.inl ⟨by rfl, ?_⟩) hS ?_
              rotate_left
              · (intro w hSw; (try dsimp only at hSw); go_simp; first | done | with_reducible rfl)
              simp only [List.setIfInBounds_toArray, List.set_cons_zero, List.set_cons_succ]
              refine wpT (i := 19) (v := ?_) rfl rfl (by kernel_rfl) (by kernel_rfl) (by kernel_rfl) (fun _ _ _ h => h) (Or.inl ⟨by rfl, ?_⟩) hS ?_
              rotate_left
              · (intro w hSw; (try dsimp only at hSw); go_simp; first | done | with_reducible rfl)
              simp only [List.setIfInBounds_toArray, List.set_cons_zero, List.set_cons_succ]
              refine wpT (i := 20) (v := ?_) rfl rfl (by kernel_rfl) (by kernel_rfl) (by kernel_rfl) (fun _ _ _ h => h) (Or.inl ⟨by rfl, ?_⟩) hS ?_
              rotate_left
              · (intro w hSw; (try dsimp only at hSw); go_simp; first | done | with_reducible rfl)
              simp only [List.setIfInBounds_toArray, List.set_cons_zero, List.set_cons_succ]
              refine wpT (i := 21) (v := ?_) rfl rfl (by kernel_rfl) (by kernel_rfl) (by kernel_rfl) (fun _ _ _ h => h) (Or.inl ⟨by rfl, ?_⟩) hS ?_
              rotate_left
              · (intro w hSw; (try dsimp only at hSw); go_simp; first | done | with_reducible rfl)
              simp only [List.setIfInBounds_toArray, List.set_cons_zero, List.set_cons_succ]
              refine wpT (i := 22) (v := ?_) rfl rfl (by kernel_rfl) (by kernel_rfl) (by kernel_rfl) (fun _ _ _ h => h) (Or.inl ⟨by rfl, ?_⟩) hS ?_
              rotate_left
              · (intro w hSw; (try dsimp only at hSw); go_simp; first | done | with_reducible rfl)
              simp only [List.setIfInBounds_toArray, List.set_cons_zero, List.set_cons_succ]
              refine wpT (i := 23) (v := ?_) rfl rfl (by kernel_rfl) (by kernel_rfl) (by kernel_rfl) (fun _ _ _ h => h) (Or.inl ⟨by rfl, ?_⟩) hS ?_
              rotate_left
              · (intro w hSw; (try dsimp only at hSw); go_simp; first | done | with_reducible rfl)
              simp only [List.setIfInBounds_toArray, List.set_cons_zero, List.set_cons_succ]
              refine wpT (i := 24) (v := ?_) rfl rfl (by kernel_rfl) (by kernel_rfl) (by kernel_rfl) (fun _ _ _ h => h) (Or.inl ⟨by rfl, ?_⟩) hS ?_
              rotate_left
              · (intro w hSw; (try dsimp only at hSw); go_simp; first | done | with_reducible rfl)
              simp only [List.setIfInBounds_toArray, List.set_cons_zero, List.set_cons_succ]
              refine wpT (i := 25) (v := ?_) rfl rfl (by kernel_rfl) (by kernel_rfl) (by kernel_rfl) (fun _ _ _ h => h) (Or.inl ⟨by rfl, ?_⟩) hS ?_
              rotate_left
              · (intro w hSw; (try dsimp only at hSw); go_simp; first | done | with_reducible rfl)
              simp only [List.setIfInBounds_toArray, List.set_cons_zero, List.set_cons_succ]
              refine wpT (i := 26) (v := ?_) rfl rfl (by kernel_rfl) (by kernel_rfl) (by kernel_rfl) (fun _ _ _ h => h) (Or.inl ⟨by rfl, ?_⟩) hS ?_
              rotate_left
              · (intro w hSw; (try dsimp only at hSw); go_simp; first | done | with_reducible rfl)
              simp only [List.setIfInBounds_toArray, List.set_cons_zero, List.set_cons_succ]
              refine wpT (i := 27) (v := ?_) rfl rfl (by kernel_rfl) (by kernel_rfl) (by kernel_rfl) (fun _ _ _ h => h) (Or.inl ⟨by rfl, ?_⟩) hS ?_
              rotate_left
              · (intro w hSw; (try dsimp only at hSw); go_simp; first | done | with_reducible rfl)
              simp only [List.setIfInBounds_toArray, List.set_cons_zero, List.set_cons_succ]
              refine wpT (i := 28) (v := ?_) rfl rfl (by kernel_rfl) (by kernel_rfl) (by kernel_rfl) (fun _ _ _ h => h) (Or.inl ⟨by rfl, ?_⟩) hS ?_
              rotate_left
              · (intro w hSw; (try dsimp only at hSw); go_simp; first | done | with_reducible rfl)
              simp only [List.setIfInBounds_toArray, List.set_cons_zero, List.set_cons_succ]
              refine wpAnyH_ready (rs := [29]) (by kernel_rfl) (by simp) ?_
              refine AllReadyH.cons rfl (fun K hK => ?_) AllReadyH.nil
              go_simp
              (go_at_call 17; refine (l2Before_s _ _ _ _ _).mono ?_; rintro e w3 ⟨rfl, hb3⟩)
              try go_wp2_with fail
              refine hK.out _ _ ?_ (fun hS2 => ?_)
              · (clear hK K; ((go_split_ands; (try dsimp only); (repeat' (with_reducible apply And.intro)) <;> (repeat (first | with_reducible assumption | with_reducible apply keep_alloc | with_reducible apply keep_drew | with_reducible refine keep_below hb3 ?_ | ((with_reducible refine keep_set ?_ ?_); rotate_left; (simp <;> omega)))))))
              clear hS hK K
              have hS := hS2
              clear hS2
              refine wpT (i := 30) (v := ?_) rfl rfl (by kernel_rfl) (by kernel_rfl) (by kernel_rfl) (fun _ _ _ h => h) (Or.inl ⟨by rfl, ?_⟩) hS ?_
              rotate_left
              · (intro w hSw; (try dsimp only at hSw); go_simp; first | done | with_reducible rfl)
              simp only [List.setIfInBounds_toArray, List.set_cons_zero, List.set_cons_succ]
              refine wpT (i := 31) (v := ?_) rfl rfl (by kernel_rfl) (by kernel_rfl) (by kernel_rfl) (fun _ _ _ h => h) (Or.inl ⟨by rfl, ?_⟩) hS ?_
              rotate_left
              · (intro w hSw; (try dsimp only at hSw); go_simp; first | done | with_reducible rfl)
              simp only [List.setIfInBounds_toArray, List.set_cons_zero, List.set_cons_succ]
              refine wpT (i := 32) (v := ?_) rfl rfl (by kernel_rfl) (by kernel_rfl) (by kernel_rfl) (fun _ _ _ h => h) (Or.inl ⟨by rfl, ?_⟩) hS ?_
              rotate_left
              · (intro w hSw; (try dsimp only at hSw); go_simp; first | done | with_reducible rfl)
              simp only [List.setIfInBounds_toArray, List.set_cons_zero, List.set_cons_succ]
              refine wpAnyH_done (by kernel_rfl) ?_ _
              refine NoPanic.normal ?_
              go_wp2_with fail
              go_meet
              exact ⟨by rw [HV.out], (by (repeat (first | with_reducible exact Below.refl _ _ | with_reducible assumption | with_reducible apply bel_alloc | with_reducible apply bel_drew | with_reducible apply bel_drewN | ((with_reducible refine bel_set ?_ ?_); rotate_left; (simp <;> omega)) | (with_reducible refine bel_trans ?_ (by with_reducible assumption)))))⟩
            · have hk3 : k = 0 := by omega
              have HV : Hid (shapeAt xs k (x, y) = true) := by unfold Hid shapeAt; rw [ho, hk3]; rfl
              have hk2 : decide ((0 : Int) < (k : Int)) = false := by simp; omega
              have hk4 : ¬ (0 : Int) < (k : Int) := by omega
              clear ho hk3
              refine wp_region_noPanic ?_
              refine wp_region_held_drew (S := (fun w' => w'.cell? ⟨g, off + k * 2, none⟩ = some (.int .i64 x) ∧ w'.cell? ⟨g, off + k * 2 + 1, none⟩ = some (.int .i64 y))) (by kernel_rfl) ?_ (fun hS => ?_)
              · ((go_split_ands; (try dsimp only); (repeat' (with_reducible apply And.intro)) <;> (repeat (first | with_reducible assumption | with_reducible apply keep_alloc | with_reducible apply keep_drew | with_reducible refine keep_below hb1 ?_ | ((with_reducible refine keep_set ?_ ?_); rotate_left; (simp <;> omega))))))
              refine wpT (i := 0) (v := ?_) rfl rfl (by kernel_rfl) (by kernel_rfl) (by kernel_rfl) (fun _ _ _ h => h) (Or.inl ⟨by rfl, ?_⟩) hS ?_
              rotate_left
              · (intro w hSw; (try dsimp only at hSw); go_simp; first | done | with_reducible rfl)
              simp only [List.setIfInBounds_toArray, List.set_cons_zero, List.set_cons_succ]
              refine wpT (i := 1) (v := ?_) rfl rfl (by kernel_rfl) (by kernel_rfl) (by kernel_rfl) (fun _ _ _ h => h) (Or.inl ⟨by rfl, ?_⟩) hS ?_
              rotate_left
              · (intro w hSw; (try dsimp only at hSw); go_simp; first | done | with_reducible rfl)
              simp only [List.setIfInBounds_toArray, List.set_cons_zero, List.set_cons_succ]
              refine wpT (i := 2) (v := ?_) rfl rfl (by kernel_rfl) (by kernel_rfl) (by kernel_rfl) (fun _ _ _ h => h) (Or.inl ⟨by rfl, ?_⟩) hS ?_
              rotate_left
              · (intro w hSw; (try dsimp only at hSw); go_simp; first | done | with_reducible rfl)
              simp only [List.setIfInBounds_toArray, List.set_cons_zero, List.set_cons_succ]
              refine wpT (i := 3) (v := ?_) rfl rfl (by kernel_rfl) (by kernel_rfl) (by kernel_rfl) (fun _ _ _ h => h) (Or.inl ⟨by rfl, ?_⟩) hS ?_
              rotate_left
              · (intro w hSw; (try dsimp only at hSw); go_simp; first | done | with_reducible rfl)
              simp only [List.setIfInBounds_toArray, List.set_cons_zero, List.set_cons_succ]
              refine wpT (i := 4) (v := ?_) rfl rfl (by kernel_rfl) (by kernel_rfl) (by kernel_rfl) (fun _ _ _ h => h) (Or.inl ⟨by rfl, ?_⟩) hS ?_
              rotate_left
              · (intro w hSw; (try dsimp only at hSw); go_simp; first | done | with_reducible rfl)
              simp only [List.setIfInBounds_toArray, List.set_cons_zero, List.set_cons_succ]
              refine wpAnyH_ready (rs := [5]) (by kernel_rfl) (by simp) ?_
              refine AllReadyH.cons rfl (fun K hK => ?_) AllReadyH.nil
              go_simp
              (go_at_call 18; refine (l1In_b _ _ _ _ _ HX.out).mono ?_; rintro e w1 ⟨rfl, hb1⟩)
              try go_wp2_with fail
              refine hK.out _ _ ?_ (fun hS2 => ?_)
              · (clear hK K; ((go_split_ands; (try dsimp only); (repeat' (with_reducible apply And.intro)) <;> (repeat (first | with_reducible assumption | with_reducible apply keep_alloc | with_reducible apply keep_drew | with_reducible refine keep_below hb1 ?_ | ((with_reducible refine keep_set ?_ ?_); rotate_left; (simp <;> omega)))))))
              clear hS hK K
              have hS := hS2
              clear hS2
              refine wpT (i := 6) (v := ?_) rfl rfl (by kernel_rfl) (by kernel_rfl) (by kernel_rfl) (fun _ _ _ h => h) (Or.inl ⟨by rfl, ?_⟩) hS ?_
              rotate_left
              · (intro w hSw; (try dsimp only at hSw); go_simp; first | done | with_reducible rfl)
              simp only [List.setIfInBounds_toArray, List.set_cons_zero, List.set_cons_succ]
              refine wpT (i := 7) (v := ?_) rfl rfl (by kernel_rfl) (by kernel_rfl) (by kernel_rfl) (fun _ _ _ h => h) (Or.inl ⟨by rfl, ?_⟩) hS ?_
              rotate_left
              · (intro w hSw; (try dsimp only at hSw); go_simp; first | done | with_reducible rfl)
              simp only [List.setIfInBounds_toArray, List.set_cons_zero, List.set_cons_succ]
              refine wpT (i := 8) (v := ?_) rfl rfl (by kernel_rfl) (by kernel_rfl) (by kernel_rfl) (fun _ _ _ h => h) (Or.inl ⟨by rfl, ?_⟩) hS ?_
              rotate_left
              · (intro w hSw; (try dsimp only at hSw); go_simp; first | done | with_reducible rfl)
              simp only [List.setIfInBounds_toArray, List.set_cons_zero, List.set_cons_succ]
              refine wpT (i := 9) (v := ?_) rfl rfl (by kernel_rfl) (by kernel_rfl) (by kernel_rfl) (fun _ _ _ h => h) (Or.inl ⟨by rfl, ?_⟩) hS ?_
              rotate_left
              · (intro w hSw; (try dsimp only at hSw); go_simp; first | done | with_reducible rfl)
              simp only [List.setIfInBounds_toArray, List.set_cons_zero, List.set_cons_succ]
              refine wpT (i := 10) (v := ?_) rfl rfl (by kernel_rfl) (by kernel_rfl) (by kernel_rfl) (fun _ _ _ h => h) (Or.inl ⟨by rfl, ?_⟩) hS ?_
              rotate_left
              · (intro w hSw; (try dsimp only at hSw); go_simp; first | done | with_reducible rfl)
              simp only [List.setIfInBounds_toArray, List.set_cons_zero, List.set_cons_succ]
              refine wpT (i := 11) (v := ?_) rfl rfl (by kernel_rfl) (by kernel_rfl) (by kernel_rfl) (fun _ _ _ h => h) (Or.inl ⟨by rfl, ?_⟩) hS ?_
              rotate_left
              · (intro w hSw; (try dsimp only at hSw); go_simp; first | done | with_reducible rfl)
              simp only [List.setIfInBounds_toArray, List.set_cons_zero, List.set_cons_succ]
              refine wpT (i := 12) (v := ?_) rfl rfl (by kernel_rfl) (by kernel_rfl) (by kernel_rfl) (fun _ _ _ h => h) (Or.inl ⟨by rfl, ?_⟩) hS ?_
              rotate_left
              · (intro w hSw; (try dsimp only at hSw); go_simp; first | done | with_reducible rfl)
              simp only [List.setIfInBounds_toArray, List.set_cons_zero, List.set_cons_succ]
              refine wpAnyH_ready (rs := [13]) (by kernel_rfl) (by simp) ?_
              refine AllReadyH.cons rfl (fun K hK => ?_) AllReadyH.nil
              go_simp
              (go_at_call 18; refine (l1In_b _ _ _ _ _ HY.out).mono ?_; rintro e w2 ⟨rfl, hb2⟩)
              try go_wp2_with fail
              refine hK.out _ _ ?_ (fun hS2 => ?_)
              · (clear hK K; ((go_split_ands; (try dsimp only); (repeat' (with_reducible apply And.intro)) <;> (repeat (first | with_reducible assumption | with_reducible apply keep_alloc | with_reducible apply keep_drew | with_reducible refine keep_below hb2 ?_ | ((with_reducible refine keep_set ?_ ?_); rotate_left; (simp <;> omega)))))))
              clear hS hK K
              have hS := hS2
              clear hS2
              refine wpT (i := 14) (v := ?_) rfl rfl (by kernel_rfl) (by kernel_rfl) (by kernel_rfl) (fun _ _ _ h => h) (Or.inl ⟨by rfl, ?_⟩) hS ?_
              rotate_left
              · (intro w hSw; (try dsimp only at hSw); go_simp; first | done | with_reducible rfl)
              simp only [List.setIfInBounds_toArray, List.set_cons_zero, List.set_cons_succ]
              refine wpT (i := 15) (v := ?_) rfl rfl (by kernel_rfl) (by kernel_rfl) (by kernel_rfl) (fun _ _ _ h => h) (Or.inl ⟨by rfl, ?_⟩) hS ?_
              rotate_left
              · (intro w hSw; (try dsimp only at hSw); go_simp; first | done | with_reducible rfl)
              simp only [List.setIfInBounds_toArray, List.set_cons_zero, List.set_cons_succ]
              refine wpT (i := 16) (v := ?_) rfl rfl (by kernel_rfl) (by kernel_rfl) (by kernel_rfl) (fun _ _ _ h => h) (Or.inl ⟨by rfl, ?_⟩) hS ?_
              rotate_left
              · (intro w hSw; (try dsimp only at hSw); go_simp; first | done | with_reducible rfl)
              simp only [List.setIfInBounds_toArray, List.set_cons_zero, List.set_cons_succ]
              refine wpT (i := 17) (v := ?_) rfl rfl (by kernel_rfl) (by kernel_rfl) (by kernel_rfl) (fun _ _ _ h => h) (Or.inl ⟨by rfl, ?_⟩) hS ?_
              rotate_left
              · (intro w hSw; (try dsimp only at hSw); go_simp; first | done | with_reducible rfl)
              simp only [List.setIfInBounds_toArray, List.set_cons_zero, List.set_cons_succ]
              refine wpT (i := 18) (v := ?_) rfl rfl (by kernel_rfl) (by kernel_rfl) (by kernel_rfl) (fun _ _ _ h => h) (Or.inl ⟨by rfl, ?_⟩) hS ?_
              rotate_left
              · (intro w hSw; (try dsimp only at hSw); go_simp; first | done | with_reducible rfl)
              simp only [List.setIfInBounds_toArray, List.set_cons_zero, List.set_cons_succ]
              refine wpT (i := 19) (v := ?_) rfl rfl (by kernel_rfl) (by kernel_rfl) (by kernel_rfl) (fun _ _ _ h => h) (Or.inl ⟨by rfl, ?_⟩) hS ?_
              rotate_left
              · (intro w hSw; (try dsimp only at hSw); go_simp; first | done | with_reducible rfl)
              simp only [List.setIfInBounds_toArray, List.set_cons_zero, List.set_cons_succ]
              refine wpT (i := 20) (v := undef) rfl rfl (by kernel_rfl) (by kernel_rfl) (by kernel_rfl) (fun _ _ _ h => h) (Or.inr ⟨by rfl, rfl⟩) hS ?_
              simp only [List.setIfInBounds_toArray, List.set_cons_zero, List.set_cons_succ]
              refine wpT (i := 21) (v := undef) rfl rfl (by kernel_rfl) (by kernel_rfl) (by kernel_rfl) (fun _ _ _ h => h) (Or.inr ⟨by rfl, rfl⟩) hS ?_
              simp only [List.setIfInBounds_toArray, List.set_cons_zero, List.set_cons_succ]
              refine wpT (i := 22) (v := undef) rfl rfl (by kernel_rfl) (by kernel_rfl) (by kernel_rfl) (fun _ _ _ h => h) (Or.inr ⟨by rfl, rfl⟩) hS ?_
              simp only [List.setIfInBounds_toArray, List.set_cons_zero, List.set_cons_succ]
              refine wpT (i := 23) (v := undef) rfl rfl (by kernel_rfl) (by kernel_rfl) (by kernel_rfl) (fun _ _ _ h => h) (Or.inr ⟨by rfl, rfl⟩) hS ?_
              simp only [List.setIfInBounds_toArray, List.set_cons_zero, List.set_cons_succ]
              refine wpT (i := 24) (v := undef) rfl rfl (by kernel_rfl) (by kernel_rfl) (by kernel_rfl) (fun _ _ _ h => h) (Or.inr ⟨by rfl, rfl⟩) hS ?_
              simp only [List.setIfInBounds_toArray, List.set_cons_zero, List.set_cons_succ]
              refine wpT (i := 25) (v := undef) rfl rfl (by kernel_rfl) (by kernel_rfl) (by kernel_rfl) (fun _ _ _ h => h) (Or.inr ⟨by rfl, rfl⟩) hS ?_
              simp only [List.setIfInBounds_toArray, List.set_cons_zero, List.set_cons_succ]
              refine wpT (i := 26) (v := undef) rfl rfl (by kernel_rfl) (by kernel_rfl) (by kernel_rfl) (fun _ _ _ h => h) (Or.inr ⟨by rfl, rfl⟩) hS ?_
              simp only [List.setIfInBounds_toArray, List.set_cons_zero, List.set_cons_succ]
              refine wpT (i := 27) (v := undef) rfl rfl (by kernel_rfl) (by kernel_rfl) (by kernel_rfl) (fun _ _ _ h => h) (Or.inr ⟨by rfl, rfl⟩) hS ?_
              simp only [List.setIfInBounds_toArray, List.set_cons_zero, List.set_cons_succ]
              refine wpT (i := 28) (v := undef) rfl rfl (by kernel_rfl) (by kernel_rfl) (by kernel_rfl) (fun _ _ _ h => h) (Or.inr ⟨by rfl, rfl⟩) hS ?_
              simp only [List.setIfInBounds_toArray, List.set_cons_zero, List.set_cons_succ]
              refine wpT (i := 29) (v := undef) rfl rfl (by kernel_rfl) (by kernel_rfl) (by kernel_rfl) (fun _ _ _ h => h) (Or.inr ⟨by rfl, rfl⟩) hS ?_
              simp only [List.setIfInBounds_toArray, List.set_cons_zero, List.set_cons_succ]
              refine wpT (i := 30) (v := undef) rfl rfl (by kernel_rfl) (by kernel_rfl) (by kernel_rfl) (fun _ _ _ h => h) (Or.inr ⟨by rfl, rfl⟩) hS ?_
              simp only [List.setIfInBounds_toArray, List.set_cons_zero, List.set_cons_succ]
              refine wpT (i := 31) (v := ?_) rfl rfl (by kernel_rfl) (by kernel_rfl) (by kernel_rfl) (fun _ _ _ h => h) (Or.inl ⟨by rfl, ?_⟩) hS ?_
              rotate_left
              · (intro w hSw; (try dsimp only at hSw); go_simp; first | done | with_reducible rfl)
              simp only [List.setIfInBounds_toArray, List.set_cons_zero, List.set_cons_succ]
              refine wpT (i := 32) (v := ?_) rfl rfl (by kernel_rfl) (by kernel_rfl) (by kernel_rfl) (fun _ _ _ h => h) (Or.inl ⟨by rfl, ?_⟩) hS ?_
              rotate_left
              · (intro w hSw; (try dsimp only at hSw); go_simp; first | done | with_reducible rfl)
              simp only [List.setIfInBounds_toArray, List.set_cons_zero, List.set_cons_succ]
              refine wpAnyH_done (by kernel_rfl) ?_ _
              refine NoPanic.normal ?_
              go_wp2_with fail
              go_meet
              exact ⟨by rw [HV.out]; rfl, (by (repeat (first | with_reducible exact Below.refl _ _ | with_reducible assumption | with_reducible apply bel_alloc | with_reducible apply bel_drew | with_reducible apply bel_drewN | ((with_reducible refine bel_set ?_ ?_); rotate_left; (simp <;> omega)) | (with_reducible refine bel_trans ?_ (by with_reducible assumption)))))⟩
      case rest =>
        obtain ⟨rfl, hb3⟩ := hcut
        cases hg : shapeAt xs k (x, y) with
        | true =>
          have HN : Hid (shapeTo xs (k + 1) = true) := by show shapeTo xs (k + 1) = true; rw [HS.out, HG.out, hg]; rfl
          clear hg
          go_wp2
          exact ⟨⟨k + 1, by omega, by go_num, HN.out, (by (repeat (first | with_reducible exact Below.refl _ _ | with_reducible assumption | with_reducible apply bel_alloc | with_reducible apply bel_drew | with_reducible apply bel_drewN | ((with_reducible refine bel_set ?_ ?_); rotate_left; (simp <;> omega)) | (with_reducible refine bel_trans ?_ (by with_reducible assumption)))))⟩, by simp [intOf]; omega⟩
        | false =>
          have HN := Lib.hid (HNO.out hg)
          clear hg
          go_wp2
          go_ret
          exact ⟨by rw [HN.out]; rfl, (by (repeat (first | with_reducible exact Below.refl _ _ | with_reducible assumption | with_reducible apply bel_alloc | with_reducible apply bel_drew | with_reducible apply bel_drewN | ((with_reducible refine bel_set ?_ ?_); rotate_left; (simp <;> omega)) | (with_reducible refine bel_trans ?_ (by with_reducible assumption)))))⟩
    · have hkk : k = n := by omega
      subst hkk
      have hv : isShape xs = (decide ((1 : Int) ≤ (k : Int)) && decide ((k : Int) ≤ 8)) := by
        unfold isShape
        rw [HL.out, hgo]
        rw [Bool.true_and]
        congr 1 <;> (rw [decide_eq_decide]; omega)
      have HV := Lib.hid hv
      clear hgo hv
      go_wp2_with (go_at_call 18; refine (l1In_b _ _ _ (isShape xs) _ HV.out).mono ?_; rintro e w1 ⟨rfl, hb1⟩)
      go_ret
      exact ⟨rfl, (by (repeat (first | with_reducible exact Below.refl _ _ | with_reducible assumption | with_reducible apply bel_alloc | with_reducible apply bel_drew | with_reducible apply bel_drewN | ((with_reducible refine bel_set ?_ ?_); rotate_left; (simp <;> omega)) | (with_reducible refine bel_trans ?_ (by with_reducible assumption)))))⟩
end Go.Proofs.Ytegnedpikpfjfaa

/- The shape of a word of few letters: the program's and the reference's. -/
namespace Go.Proofs.Ytegnedpikpfjfaa
open Go.RowKit
set_option linter.unusedVariables false
attribute [local go_sem ↓] Go.wp_at_zero Go.wp_at_succ
theorem way_small {s : ByteArray} {l : List C} (h : wayW (0, 0) s.data.toList = some l) (hs : s.size ≤ 20) : ∀ d ∈ l, small d := by
  intro d hd
  obtain ⟨i, hi, rfl⟩ := List.mem_iff_getElem.1 hd
  have hl := wayW_len h
  rw [data_len] at hl
  have he := way_at h i (by rw [data_len]; omega)
  rw [getD_of hi] at he
  have hb := endW_bound he 0 (by rw [List.length_take, data_len]; omega) (by simp)
  rw [List.length_take, data_len] at hb
  unfold small
  omega
set_option maxHeartbeats 1600000 in
theorem ShapeOfWord_k0 (s : ByteArray) (w : World) (hs : s.size ≤ 20) : Calls Try.prog 5 #[.string s] w (RetS2 w 29 2 (vC (sowV s.data.toList).1) (.bool (sowV s.data.toList).2)) := by
  cases hw : wayW (0, 0) s.data.toList with
  | none =>
    have HV := Lib.hid (sowV_none hw)
    have HW := Lib.hid hw
    clear hw
    go_enter Try.func5, Try.ntmps5
    go_wp2_with fail
    refine (wayOf_i s 20 _ (by omega) (by omega)).mono ?_
    rw [HW.out]
    rintro e w1 ⟨rfl, hb1⟩
    go_wp2_with fail
    go_ret2
    exact ⟨none, 0, 0, by rw [HV.out]; rfl, by rw [HV.out]; exact own_nil _ _ _ _, hb1⟩
  | some l =>
    have hl := wayW_len hw
    rw [data_len] at hl
    have hsm := way_small hw (by omega)
    cases hsh : isShape (cornI l) with
    | false =>
      have HV := Lib.hid (sowV_no hw hsh)
      have HW := Lib.hid hw
      have HSH := Lib.hid hsh
      have HSM := Lib.hid hsm
      have HL := Lib.hid hl
      clear hw hsh hsm hl
      go_enter Try.func5, Try.ntmps5
      go_wp2_with fail
      refine (wayOf_i s 20 _ (by omega) (by omega)).mono ?_
      rw [HW.out]
      rintro e w1 ⟨A, n, c, rfl, hown, hb1⟩
      have hn : l.length = n := by have h1 := own_len hown; rw [vC_length] at h1; omega
      have HN := Lib.hid hn
      have HO := Lib.hid (Rd.of_own hown)
      have hnb : 1 ≤ n ∧ n ≤ 21 := by have := HL.out; omega
      clear hown hn
      go_wp2_with fail
      refine (corner_k A n c l w1 HO.out HN.out hnb.1 hnb.2 HSM.out).mono ?_
      rintro e w2 ⟨B, m, cb, rfl, hO2, hb2⟩
      have hm : (cornI l).length = m := by have h1 := own_len hO2; rw [vC_length] at h1; omega
      have hml : m ≤ 1048576 := by have := cornI_len l; have := HN.out; omega
      have HM := Lib.hid hm
      have HR2 := Lib.hid (Rd.of_own hO2)
      have HB2 := Lib.hid (bel_trans hb1 hb2)
      clear hO2 hb2 hm
      go_wp2_with fail
      refine (IsShape_i B m cb (cornI l) w2 HR2.out HM.out (by omega)).mono ?_
      rw [HSH.out]
      rintro e w3 ⟨rfl, hb3⟩
      go_wp2_with fail
      go_ret2
      exact ⟨none, 0, 0, by rw [HV.out]; rfl, by rw [HV.out]; exact own_nil _ _ _ _, bel_trans HB2.out hb3⟩
    | true =>
      have HV := Lib.hid (sowV_yes hw hsh)
      have HW := Lib.hid hw
      have HSH := Lib.hid hsh
      have HSM := Lib.hid hsm
      have HL := Lib.hid hl
      clear hw hsh hsm hl
      go_enter Try.func5, Try.ntmps5
      go_wp2_with fail
      refine (wayOf_i s 20 _ (by omega) (by omega)).mono ?_
      rw [HW.out]
      rintro e w1 ⟨A, n, c, rfl, hown, hb1⟩
      have hn : l.length = n := by have h1 := own_len hown; rw [vC_length] at h1; omega
      have HN := Lib.hid hn
      have HO := Lib.hid (Rd.of_own hown)
      have hnb : 1 ≤ n ∧ n ≤ 21 := by have := HL.out; omega
      clear hown hn
      go_wp2_with fail
      refine (corner_k A n c l w1 HO.out HN.out hnb.1 hnb.2 HSM.out).mono ?_
      rintro e w2 ⟨B, m, cb, rfl, hO2, hb2⟩
      have hm : (cornI l).length = m := by have h1 := own_len hO2; rw [vC_length] at h1; omega
      have hml : m ≤ 1048576 := by have := cornI_len l; have := HN.out; omega
      have HM := Lib.hid hm
      have HO2 := Lib.hid hO2
      have hbz := hb1.size
      have HB2 := Lib.hid (bel_trans hb1 hb2)
      clear hO2 hb2 hm
      go_wp2_with fail
      refine (IsShape_i B m cb (cornI l) w2 (Rd.of_own HO2.out) HM.out (by omega)).mono ?_
      rw [HSH.out]
      rintro e w3 ⟨rfl, hb3⟩
      have HO3 := Lib.hid (own_keep HO2.out hb3)
      go_wp2_with fail
      go_ret2
      exact ⟨B, m, cb, by rw [HV.out]; rfl, by rw [HV.out]; exact own_base HO3.out hbz, bel_trans HB2.out hb3⟩
/-- The shape of a word: more than 20 letters are none. -/
def sowW (s : ByteArray) : List C × Bool := if s.size ≤ 20 then sowV s.data.toList else ([], false)
theorem sowW_far {s : ByteArray} (h : ¬ s.size ≤ 20) : sowW s = ([], false) := if_neg h
theorem sowW_near {s : ByteArray} (h : s.size ≤ 20) : sowW s = sowV s.data.toList := if_pos h
theorem sowV_len {s : ByteArray} (h : s.size ≤ 20) : (sowV s.data.toList).1.length ≤ 1048576 := by
  cases hw : wayW (0, 0) s.data.toList with
  | none => rw [sowV_none hw]; simp
  | some l =>
    have hl := wayW_len hw
    rw [data_len] at hl
    have hc := cornI_len l
    cases hsh : isShape (cornI l) with
    | false => rw [sowV_no hw hsh]; simp
    | true => rw [sowV_yes hw hsh]; show (cornI l).length ≤ _; omega
theorem sowW_len (s : ByteArray) : (sowW s).1.length ≤ 1048576 := by
  by_cases h : s.size ≤ 20
  · rw [sowW_near h]; exact sowV_len h
  · rw [sowW_far h]; simp
theorem ShapeOfWord_k (s : ByteArray) (w : World) (hs : s.size ≤ maxLen) : Calls Try.prog 5 #[.string s] w (RetS2 w 29 2 (vC (sowW s).1) (.bool (sowW s).2)) := by
  by_cases h : s.size ≤ 20
  · rw [sowW_near h]; exact ShapeOfWord_k0 s w h
  · rw [sowW_far h]
    have hI : (20 : Int) < (s.size : Int) := by omega
    go_enter Try.func5, Try.ntmps5
    go_wp2_with fail
    refine (wayOf_far s 20 _ hI hs).mono ?_
    rintro e w1 ⟨rfl, hb1⟩
    go_wp2_with fail
    go_ret2
    exact ⟨none, 0, 0, rfl, own_nil _ _ _ _, hb1⟩
end Go.Proofs.Ytegnedpikpfjfaa

/- The shape of a word of few letters: the reference's. -/
namespace Go.Proofs.Ytegnedpikpfjfaa
open Go.RowKit
set_option linter.unusedVariables false
attribute [local go_sem ↓] Go.wp_at_zero Go.wp_at_succ
theorem own_keptD {w w' : World} {base n c e size : Nat} {A : Option Addr} {xs : List Value} {row : Option Nat} (h : w.ownsRow base e size (.slice A n c) n xs) (hg : w.grownBy w' row) (hn : ∀ g, ob A = some g → row ≠ some g) : w'.ownsRow base e size (.slice A n c) n xs :=
  h.kept hg (by
    rw [ownBlock_slice]
    cases hA : ob A with
    | none => exact .inl rfl
    | some g => right; intro e; exact hn g hA e.symm)
theorem sow_S (l : List C) (h : 0 < l.length) : cornS (sortC l) = cornI l := (corn_eq h).symm
set_option maxRecDepth 100000 in
set_option maxHeartbeats 3200000 in
theorem ShapeOfWord_t0 (s : ByteArray) (w : World) (hs : s.size ≤ 20) : Calls Try.prog 4 #[.string s] w (RetS2 w 29 2 (vC (sowV s.data.toList).1) (.bool (sowV s.data.toList).2)) := by
  have hs20 : (s.size : Int) ≤ 20 := by omega
  obtain ⟨B, hB0⟩ : ∃ B, w.heap.size + 1 = B := ⟨_, rfl⟩
  go_enter Try.func4, Try.ntmps4
  go_wp2_with fail
  go_loopw [6, 4, 7, 8] (fun i t4 t7 t8 wr => ∃ (k n cap : Nat) (A : Option Addr) (l : List C) (x y : Int), k ≤ s.size ∧ i = .int .i64 k ∧ t4 = .slice A n cap ∧ n = k + 1 ∧ wr.ownsRow w.heap.size 29 2 (.slice A n cap) n (vC l) ∧ ob A ≠ some (w.heap.size + 1) ∧ wayW (0, 0) (s.data.toList.take k) = some l ∧ endW (0, 0) (s.data.toList.take k) = some (x, y) ∧ Blk wr (w.heap.size + 1) 29 #[.int .i64 x, .int .i64 y] ∧ Below w.heap.size w wr) (fun i _ _ _ _ => s.size - (intOf i).toNat)
  case atStart =>
    refine ⟨0, 1, 1, some ⟨w.heap.size, 0, none⟩, [(0, 0)], 0, 0, Nat.zero_le _, rfl, rfl, rfl, (own_newC w _ 0 0 (Nat.le_refl _)).alloc _, ?_, rfl, rfl, ?_, bel_alloc (bel_alloc (Below.refl _ _) _) _⟩
    · simp [ob]
    · have h := Blk.new (w.alloc (.cells #[.int .i64 0, .int .i64 0] 29)) 29 #[.int .i64 0, .int .i64 0]
      have e : (w.alloc (.cells #[.int .i64 0, .int .i64 0] 29)).heap.size = w.heap.size + 1 := by simp
      rw [e] at h
      exact h
  case round =>
    obtain ⟨k, n, cap, A, l, x, y, hk, rfl, rfl, hnk, hown, hAB, hl, hd, hB, hb⟩ := hrel
    rw [hB0] at hB hAB
    have hlen := own_len hown
    rw [vC_length] at hlen
    have c1 : wr.cell? ⟨B, 0, none⟩ = some (.int .i64 x) := by simpa using hB.cell 0
    have c2 : wr.cell? ⟨B, 1, none⟩ = some (.int .i64 y) := by simpa using hB.cell 1
    have hg := hB.lt
    have n1 := World.new_ne wr _ c1
    have hbz := hb.size
    by_cases hlt : k < s.size
    · have ee := end_step s k hlt (0, 0) (x, y) hd
      have ew := way_step s k hlt (0, 0) (x, y) l hl hd
      have HE := Lib.hid ee
      have HW := Lib.hid ew
      have HOW := Lib.hid hown
      have HNK := Lib.hid hnk
      have HLEN := Lib.hid hlen
      have hn12 : n ≤ 21 := by omega
      clear ee ew hd hl hown hnk hlen
      have hi0 : (0 : Int) ≤ (k : Int) := by omega
      have hi1 : (k : Int) < (s.size : Int) := by omega
      go_upto_region 6 with fail
      go_cut [7, 8] (fun s5 s6 wx => ∃ (q : Nat), s5 = .pointer (some ⟨q, 0, none⟩) ∧ s6 = .bool (stepW (x, y) s[k]).isSome ∧ wr.heap.size ≤ q ∧ Blk wx q 29 #[.int .i64 ((stepW (x, y) s[k]).getD (x, y)).1, .int .i64 ((stepW (x, y) s[k]).getD (x, y)).2] ∧ Below wr.heap.size wr wx)
      case first =>
        go_region_held3 (fun w' => w'.cell? ⟨B, 0, none⟩ = some (.int .i64 x) ∧ w'.cell? ⟨B, 1, none⟩ = some (.int .i64 y))
          ((go_split_ands; (try dsimp only); (repeat' (with_reducible apply And.intro)) <;> (repeat (first | with_reducible assumption | with_reducible apply keep_alloc | with_reducible apply keep_drew | with_reducible refine keep_below hb1 ?_ | ((with_reducible refine keep_set ?_ ?_); rotate_left; (simp <;> omega))))))
          (first | (go_at_call 9; refine (l26Step_s _ _ _ _).mono ?_; rintro e w' ⟨rfl, hb1⟩; obtain ⟨hc1, hf1⟩ := bcell hb1))
        all_goals go_wp2_with fail
        all_goals go_meet
        all_goals first
          | exact ⟨_, rfl, rfl, by have := hb1.size; simpa using this, Blk.new _ _ _, (by (repeat (first | with_reducible exact Below.refl _ _ | with_reducible assumption | with_reducible apply bel_alloc | with_reducible apply bel_drew | with_reducible apply bel_drewN | ((with_reducible refine bel_set ?_ ?_); rotate_left; (simp <;> omega)) | (with_reducible refine bel_trans ?_ (by with_reducible assumption)))))⟩
          | exact ⟨_, rfl, rfl, Nat.le_refl _, blk_set2 hb1, (by (repeat (first | with_reducible exact Below.refl _ _ | with_reducible assumption | with_reducible apply bel_alloc | with_reducible apply bel_drew | with_reducible apply bel_drewN | ((with_reducible refine bel_set ?_ ?_); rotate_left; (simp <;> omega)) | (with_reducible refine bel_trans ?_ (by with_reducible assumption)))))⟩
      case rest =>
        obtain ⟨q, rfl, rfl, hq, hB2, hb2⟩ := hcut
        have b1 := hB2.cell 0
        have b2 := hB2.cell 1
        simp at b1 b2
        have hB3 := hB.below hb2
        have d1 : wc.cell? ⟨B, 0, none⟩ = some (.int .i64 x) := by simpa using hB3.cell 0
        have d2 : wc.cell? ⟨B, 1, none⟩ = some (.int .i64 y) := by simpa using hB3.cell 1
        have f1 := hB3.frozen 0
        have f2 := hB3.frozen 1
        have hne : q ≠ B := by omega
        have HBK := Lib.hid hB
        clear hB2 hB c1 c2
        cases hst : stepW (x, y) s[k] with
        | none =>
          have HF := Lib.hid (sowV_none (wayW_none.2 (end_none_of_take (HE.out.trans hst))))
          simp only [hst] at b1 b2 ⊢
          clear hst
          go_wp2
          go_ret2
          exact ⟨_, 0, 0, by rw [HF.out]; rfl, by rw [HF.out]; exact own_new _ _ 2 0 #[] rfl (by simp [maxLen]) (by have := hb2.size; omega), (by (repeat (first | with_reducible exact Below.refl _ _ | with_reducible assumption | with_reducible apply bel_alloc | with_reducible apply bel_drew | with_reducible apply bel_drewN | ((with_reducible refine bel_set ?_ ?_); rotate_left; (simp <;> omega)) | (with_reducible refine bel_trans ?_ (by with_reducible assumption)))))⟩
        | some d =>
          simp only [hst, Option.getD_some, Option.isSome_some] at b1 b2 ⊢
          have HS := Lib.hid hst
          clear hst
          have HO2 := Lib.hid (own_keep HOW.out hb2)
          have HB3 := Lib.hid hB3
          have HB2 := Lib.hid hb2
          have hAB2 : ∀ b, ob A = some b → b ≠ B := fun b e hh => hAB (by rw [e, hh])
          have hst2 : wc.grownBy ((wc.setCell ⟨B, 0, none⟩ (.int .i64 d.1)).setCell ⟨B, 1, none⟩ (.int .i64 d.2)) (some B) := grown_set (p := ⟨B, 1, none⟩) (grown_set (p := ⟨B, 0, none⟩) (World.grownBy.refl _ _) rfl _) rfl _
          have HOD := Lib.hid (own_keptD HO2.out hst2 (fun b e r => hAB2 b e (Option.some.inj r).symm))
          have hB4 : Blk ((wc.setCell ⟨B, 0, none⟩ (.int .i64 d.1)).setCell ⟨B, 1, none⟩ (.int .i64 d.2)) B 29 #[.int .i64 d.1, .int .i64 d.2] := by simpa using (hB3.set_ 0 (.int .i64 d.1)).set_ 1 (.int .i64 d.2)
          have HB4 := Lib.hid hB4
          have hwB : w.heap.size ≤ B := by omega
          have HBW := Lib.hid (bel_grown (bel_trans hb hb2) hst2 (fun g e => by have := Option.some.inj e; omega))
          have hrn : Rd (((wc.setCell ⟨B, 0, none⟩ (.int .i64 d.1)).setCell ⟨B, 1, none⟩ (.int .i64 d.2)).alloc (.cells #[.int .i64 d.1, .int .i64 d.2] 29)) (some ⟨wc.heap.size, 0, none⟩) (vC [(d.1, d.2)]) := by
            have h := rd_newC ((wc.setCell ⟨B, 0, none⟩ (.int .i64 d.1)).setCell ⟨B, 1, none⟩ (.int .i64 d.2)) 29 d.1 d.2
            have e : ((wc.setCell ⟨B, 0, none⟩ (.int .i64 d.1)).setCell ⟨B, 1, none⟩ (.int .i64 d.2)).heap.size = wc.heap.size := by simp [World.setCell]
            rw [e] at h
            exact h
          have HRN := Lib.hid hrn
          clear hrn
          have hszd : B < ((wc.setCell ⟨B, 0, none⟩ (.int .i64 d.1)).setCell ⟨B, 1, none⟩ (.int .i64 d.2)).heap.size := hB4.lt
          clear hB3 hst2 hB4
          go_wp2_with (at_builtin; go_must (refine app_C _ rfl _ _ rfl w.heap.size _ _ _ l rfl (HOD.out.alloc _) _ _ _ [(d.1, d.2)] rfl HRN.out rfl (by omega) (by have := HBW.out.size; simp at this ⊢; omega) ?_); intro D6 c6 w8 ho6 hg6 hat6; have HO8 := Lib.hid ho6; have HG8 := Lib.hid hg6; have HAT := Lib.hid hat6; clear ho6 hg6 hat6)
          have hA0 : ob A ≠ some (w.heap.size + 1) := by rw [hB0]; exact hAB
          have hD6 : ob D6 ≠ some (w.heap.size + 1) := by
            rcases HAT.out with h | h
            · rw [h]; exact hA0
            · rw [h]
              intro e
              have e2 := Option.some.inj e
              simp at e2
              have e3 : ((wc.setCell ⟨B, 0, none⟩ (.int .i64 d.1)).setCell ⟨B, 1, none⟩ (.int .i64 d.2)).heap.size = wc.heap.size := by simp [World.setCell]
              omega
          have hlt2 := (own_lt HOD.out)
          have hBk : Blk w8 (w.heap.size + 1) 29 #[.int .i64 d.1, .int .i64 d.2] := by
            rw [hB0]
            exact (HB4.out.below (bel_alloc (Below.refl _ _) _)).grown HG8.out (fun e => hAB e.symm)
          exact ⟨⟨k + 1, n + 1, c6, D6, l ++ [d], d.1, d.2, by omega, by go_num, rfl, by have := HNK.out; omega, HO8.out, hD6, by rw [HW.out, HS.out]; rfl, by rw [HE.out, HS.out], hBk, bel_app (bel_alloc HBW.out _) HG8.out (fun b e => (hlt2 b e).1)⟩, by simp [intOf]; omega⟩
    · have hkk : k = s.size := by omega
      subst hkk
      rw [take_all] at hd hl
      have hsm := way_small hl (by omega)
      have hll := wayW_len hl
      rw [data_len] at hll
      have hcor := sow_S l (by omega)
      have hn12 : 1 ≤ n ∧ n ≤ 21 := by omega
      have HO := Lib.hid hown
      have HL := Lib.hid (by omega : l.length = n)
      have hsm2 : ∀ d ∈ sortC l, small d := fun d hd => hsm d ((sortC_mem l d).1 hd)
      have hsl := sortC_len l
      have HSM := Lib.hid hsm2
      have HCOR := Lib.hid hcor
      have HWAY := Lib.hid hl
      clear hd hl hsm hll hcor hown hsm2 hlen c1 c2 n1 hg hB hnk
      go_wp2_with fail
      refine (SortCells_s A n cap l wr (Rd.of_own HO.out) HL.out (by omega)).mono ?_
      rintro e w2 ⟨D, m, cd, rfl, hO2, hb2⟩
      have hm : (sortC l).length = m := by have h1 := own_len hO2; rw [vC_length] at h1; omega
      have HM := Lib.hid hm
      have HR2 := Lib.hid (Rd.of_own hO2)
      have hm2 : m ≤ 21 := by have := HL.out; omega
      have HB2 := Lib.hid (bel_trans hb hb2)
      clear hO2 hb2 hm
      go_wp2_with fail
      refine (l2Corner_s D m cd (sortC l) w2 HR2.out HM.out (by omega) HSM.out).mono ?_
      rw [HCOR.out]
      rintro e w3 ⟨E, m3, c3, rfl, hO3, hb3⟩
      have hm3 : (cornI l).length = m3 := by have h1 := own_len hO3; rw [vC_length] at h1; omega
      have hm3b : m3 ≤ 1048576 := by have := cornI_len l; have := HL.out; omega
      have HM3 := Lib.hid hm3
      have HO3 := Lib.hid (own_base hO3 HB2.out.size)
      have HB3 := Lib.hid (bel_trans HB2.out hb3)
      clear hO3 hb3 hm3
      go_wp2_with fail
      refine (IsShape_s E m3 c3 (cornI l) w3 (Rd.of_own HO3.out) HM3.out (by omega)).mono ?_
      cases hsh : isShape (cornI l) with
      | false =>
        have HV := Lib.hid (sowV_no HWAY.out hsh)
        rintro e w4 ⟨rfl, hb4⟩
        have HB4 := Lib.hid (bel_trans HB3.out hb4)
        clear hsh hb4
        go_wp2_with fail
        go_ret2
        exact ⟨_, 0, 0, by rw [HV.out]; rfl, by rw [HV.out]; exact own_new _ _ 2 0 #[] rfl (by simp [maxLen]) HB4.out.size, bel_alloc HB4.out _⟩
      | true =>
        have HV := Lib.hid (sowV_yes HWAY.out hsh)
        rintro e w4 ⟨rfl, hb4⟩
        have HO4 := Lib.hid (own_keep HO3.out hb4)
        have HB4 := Lib.hid (bel_trans HB3.out hb4)
        clear hsh hb4
        go_wp2_with fail
        go_ret2
        exact ⟨E, m3, c3, by rw [HV.out]; rfl, by rw [HV.out]; exact HO4.out, HB4.out⟩
set_option maxRecDepth 100000 in
set_option maxHeartbeats 1600000 in
theorem ShapeOfWord_tL (s : ByteArray) (w : World) (hs : ¬ s.size ≤ 20) : Calls Try.prog 4 #[.string s] w (RetS2 w 29 2 (vC []) (.bool false)) := by
  have hs20 : ¬ (s.size : Int) ≤ 20 := by omega
  have hs0 : (0 : Int) < (s.size : Int) := by omega
  have hsg : (s.size : Int) > 20 := by omega
  have hbo := bel_alloc (bel_alloc (Below.refl w.heap.size w) (.cells #[.int .i64 0, .int .i64 0] 29)) (.cells #[.int .i64 0, .int .i64 0] 29)
  have HO := Lib.hid ((own_newC w 29 0 0 (Nat.le_refl _)).alloc (.cells #[.int .i64 0, .int .i64 0] 29))
  obtain ⟨W0, hW0⟩ : ∃ W0, ((w.alloc (.cells #[.int .i64 0, .int .i64 0] 29)).alloc (.cells #[.int .i64 0, .int .i64 0] 29)) = W0 := ⟨_, rfl⟩
  rw [hW0] at hbo HO
  have HB0 := Lib.hid hbo
  have HW0 := Lib.hid hW0
  have h1 : (sortC [((0 : Int), (0 : Int))]) = [(0, 0)] := by decide +kernel
  have h2 : (cornS [((0 : Int), (0 : Int))]) = [(0, 0)] := by decide +kernel
  have H1 := Lib.hid h1
  have H2 := Lib.hid h2
  clear hbo hW0 h1 h2 hs
  go_enter Try.func4, Try.ntmps4
  go_wp2_with fail
  refine wp_loop_rounds 1 ?_
  rw [rounds_succ]
  go_wp2_with fail
  rw [HW0.out]
  refine (SortCells_s (some ⟨w.heap.size, 0, none⟩) 1 1 [(0, 0)] W0 (Rd.of_own HO.out) rfl (by omega)).mono ?_
  rw [H1.out]
  rintro e w2 ⟨D, m, cd, rfl, hO2, hb2⟩
  have hm : [((0 : Int), (0 : Int))].length = m := by have h1 := own_len hO2; rw [vC_length] at h1; omega
  have HM := Lib.hid hm
  have HR2 := Lib.hid (Rd.of_own hO2)
  have HB2 := Lib.hid (bel_trans HB0.out hb2)
  have hm1 : m ≤ 1048576 := by simp at hm; omega
  clear hO2 hb2 hm
  go_wp2_with fail
  refine (l2Corner_s D m cd [(0, 0)] w2 HR2.out HM.out hm1 (fun d hd => by simp at hd; subst hd; unfold small; omega)).mono ?_
  rw [H2.out]
  rintro e w3 ⟨E, m3, c3, rfl, hO3, hb3⟩
  have HB3 := Lib.hid (bel_trans HB2.out hb3)
  clear hO3 hb3
  go_wp2_with fail
  go_ret2
  exact ⟨_, 0, 0, rfl, own_new _ _ 2 0 #[] rfl (by simp [maxLen]) HB3.out.size, bel_alloc HB3.out _⟩
theorem ShapeOfWord_t (s : ByteArray) (w : World) : Calls Try.prog 4 #[.string s] w (RetS2 w 29 2 (vC (sowW s).1) (.bool (sowW s).2)) := by
  by_cases h : s.size ≤ 20
  · rw [sowW_near h]; exact ShapeOfWord_t0 s w h
  · rw [sowW_far h]; exact ShapeOfWord_tL s w h
end Go.Proofs.Ytegnedpikpfjfaa

/- The laws' own functions on cells and slices of cells: sizes, copying, comparing. -/
namespace Go.Proofs.Ytegnedpikpfjfaa
open Go.RowKit
set_option linter.unusedVariables false
attribute [local go_sem ↓] Go.wp_at_zero Go.wp_at_succ


theorem eqCell_l (a b c d : Int) (r : Bool) (h : r = (a == c && b == d)) (w : World) : Calls Try.prog 16 #[.agg #[.int .i64 a, .int .i64 b], .agg #[.int .i64 c, .int .i64 d]] w (Ret w (.bool r)) := by
  by_cases h1 : a = c
  · by_cases h2 : b = d
    · have HV : Hid (r = true) := by rw [h]; simp [h1, h2, Hid]
      clear h
      subst h1 h2
      go_enter Try.func16, Try.ntmps16
      go_wp2
      go_ret
      exact ⟨by rw [HV.out]; rfl, (by (repeat (first | with_reducible exact Below.refl _ _ | with_reducible assumption | with_reducible apply bel_alloc | with_reducible apply bel_drew | with_reducible apply bel_drewN | ((with_reducible refine bel_set ?_ ?_); rotate_left; (simp <;> omega)) | (with_reducible refine bel_trans ?_ (by with_reducible assumption)))))⟩
    · have HV : Hid (r = false) := by rw [h]; simp [h2, Hid]
      have e2 : (b == d) = false := by simp [h2]
      clear h h2
      subst h1
      go_enter Try.func16, Try.ntmps16
      go_wp2
      go_ret
      exact ⟨by rw [HV.out]; rfl, (by (repeat (first | with_reducible exact Below.refl _ _ | with_reducible assumption | with_reducible apply bel_alloc | with_reducible apply bel_drew | with_reducible apply bel_drewN | ((with_reducible refine bel_set ?_ ?_); rotate_left; (simp <;> omega)) | (with_reducible refine bel_trans ?_ (by with_reducible assumption)))))⟩
  · have HV : Hid (r = false) := by rw [h]; simp [h1, Hid]
    have e2 : (a == c) = false := by simp [h1]
    clear h h1
    go_enter Try.func16, Try.ntmps16
    go_wp2
    go_ret
    exact ⟨by rw [HV.out]; rfl, (by (repeat (first | with_reducible exact Below.refl _ _ | with_reducible assumption | with_reducible apply bel_alloc | with_reducible apply bel_drew | with_reducible apply bel_drewN | ((with_reducible refine bel_set ?_ ?_); rotate_left; (simp <;> omega)) | (with_reducible refine bel_trans ?_ (by with_reducible assumption)))))⟩

theorem eqCellS_t (A A2 : Option Addr) (n c n2 c2 : Nat) (xs : List C) (w : World) (hr : Rd w A (vC xs)) (hr2 : Rd w A2 (vC xs)) (hl : xs.length = n) (hl2 : xs.length = n2) (hn : n ≤ 1099511627776) :
    Calls Try.prog 6 #[.slice A n c, .slice A2 n2 c2] w (Ret w (.bool true)) := by
  obtain rfl : n = n2 := hl.symm.trans hl2
  have HL := Lib.hid hl
  clear hl hl2
  go_enter Try.func6, Try.ntmps6
  go_wp2
  go_loopw [5] (fun i wr => ∃ k : Nat, k ≤ n ∧ i = .int .i64 k ∧ Below w.heap.size w wr) (fun i _ => n - (intOf i).toNat)
  case atStart => exact ⟨0, Nat.zero_le _, rfl, Below.refl _ _⟩
  case round =>
    obtain ⟨k, hk, rfl, hb⟩ := hrel
    by_cases hlt : k < n
    · have hkx : k < xs.length := by rw [HL.out]; omega
      obtain ⟨g, off, rfl, hgw, c1, c1'⟩ := RdC.at_ (hr.below hb) hkx
      obtain ⟨g2, off2, rfl, hgw2, d1, d1'⟩ := RdC.at_ (hr2.below hb) hkx
      obtain ⟨⟨a, b⟩, hx⟩ : ∃ p, xs[k] = p := ⟨_, rfl⟩
      rw [hx] at c1 c1' d1 d1'
      have hi0 : (0 : Int) ≤ (k : Int) := by omega
      have hi1 : (k : Int) < (n : Int) := by omega
      have he : true = (a == a && b == b) := by simp
      have HE := Lib.hid he
      clear hx he
      go_wp2_with fail
      go_region_held3 (fun w' => w'.cell? ⟨g, off + k * 2, none⟩ = some (.int .i64 a) ∧ w'.cell? ⟨g, off + k * 2 + 1, none⟩ = some (.int .i64 b) ∧ w'.cell? ⟨g2, off2 + k * 2, none⟩ = some (.int .i64 a) ∧ w'.cell? ⟨g2, off2 + k * 2 + 1, none⟩ = some (.int .i64 b))
        ((go_split_ands; (try dsimp only); (repeat' (with_reducible apply And.intro)) <;> (repeat (first | with_reducible assumption | with_reducible apply keep_alloc | with_reducible apply keep_drew | with_reducible refine keep_below hb1 ?_ | ((with_reducible refine keep_set ?_ ?_); rotate_left; (simp <;> omega)))))) (first | (go_at_call 16; refine (eqCell_l _ _ _ _ _ HE.out _).mono ?_; rintro e w1 ⟨rfl, hb1⟩))
      go_wp2
      exact ⟨⟨k + 1, by omega, by go_num, (by (repeat (first | with_reducible exact Below.refl _ _ | with_reducible assumption | with_reducible apply bel_alloc | with_reducible apply bel_drew | with_reducible apply bel_drewN | ((with_reducible refine bel_set ?_ ?_); rotate_left; (simp <;> omega)) | (with_reducible refine bel_trans ?_ (by with_reducible assumption)))))⟩, by simp [intOf]; omega⟩
    · have hkk : k = n := by omega
      subst hkk
      go_wp2
      go_ret
      exact ⟨rfl, hb⟩
end Go.Proofs.Ytegnedpikpfjfaa

/- The laws' own functions on integers and slices of integers: copying, comparing, marking. -/
namespace Go.Proofs.Ytegnedpikpfjfaa
open Go.RowKit
set_option linter.unusedVariables false
attribute [local go_sem ↓] Go.wp_at_zero Go.wp_at_succ

/-- What marking does: the numbers from k on, in its own block alone. -/
def MarkP (w : World) (base E sz : Nat) (A : Option Addr) (n c : Nat) (vs : List Value) (r : Int) (e : Ending) (w' : World) : Prop :=
  e = .returned (.int .i64 r) ∧ w'.ownsRow base E sz (.slice A n c) n vs ∧ w.grownBy w' (ob A)

end Go.Proofs.Ytegnedpikpfjfaa

/- The laws' own marks on slices of cells. -/
namespace Go.Proofs.Ytegnedpikpfjfaa
open Go.RowKit
set_option linter.unusedVariables false
attribute [local go_sem ↓] Go.wp_at_zero Go.wp_at_succ


/-- k, k + 1 · k + 2, k + 3 · .. -/
def ioC (k : Int) (n : Nat) : List C := (List.range n).map fun (i : Nat) => (k + 2 * (i : Int), k + 2 * (i : Int) + 1)
theorem ioC_length (k : Int) (n : Nat) : (ioC k n).length = n := by simp [ioC]
theorem ioC_succ (k : Int) (n : Nat) : ioC k (n + 1) = ioC k n ++ [(k + 2 * n, k + 2 * n + 1)] := by simp [ioC, List.range_succ]
theorem ioC_get (k : Int) (n i : Nat) (h : i < (ioC k n).length) : (ioC k n)[i] = (k + 2 * i, k + 2 * i + 1) := by simp [ioC]
theorem markC_step (k : Int) (xs : List C) (j : Nat) (hj : j < xs.length) : (ioC k j ++ xs.drop j).set j (k + 2 * j, k + 2 * j + 1) = ioC k (j + 1) ++ xs.drop (j + 1) := by
  rw [List.set_append_right _ _ (by rw [ioC_length]; omega), ioC_length, Nat.sub_self, ioC_succ, List.append_assoc, List.drop_eq_getElem_cons hj]
  rfl
theorem markCellS_l (A : Option Addr) (n c base : Nat) (k : Int) (xs : List C) (w : World) (ho : w.ownsRow base 29 2 (.slice A n c) n (vC xs)) (hn : n ≤ 1099511627776) (hk0 : 0 ≤ k) (hk1 : k ≤ 1099511627776) :
    Calls Try.prog 7 #[.slice A n c, .int .i64 k] w (MarkP w base 29 2 A n c (vC (ioC k n)) (k + 2 * n)) := by
  have hl : xs.length = n := by have := own_len ho; rw [vC_length] at this; omega
  have HL := Lib.hid hl
  clear hl
  go_enter Try.func7, Try.ntmps7
  go_wp2
  go_loopw [1, 5] (fun t i wr => ∃ (j : Nat) (q : Int), j ≤ n ∧ i = .int .i64 j ∧ t = .int .i64 q ∧ q = k + 2 * j ∧ wr.ownsRow base 29 2 (.slice A n c) n (vC (ioC k j ++ xs.drop j)) ∧ w.grownBy wr (ob A)) (fun _ i _ => n - (intOf i).toNat)
  case atStart => exact ⟨0, k, Nat.zero_le _, rfl, rfl, by simp, by simpa [ioC] using ho, World.grownBy.refl _ _⟩
  case round =>
    obtain ⟨j, q, hj, rfl, rfl, hq, hO, hg⟩ := hrel
    by_cases hlt : j < n
    · obtain ⟨g, rfl, hbg, hgw⟩ := own_at hO (by omega)
      have hjl : j < (ioC k j ++ xs.drop j).length := by rw [List.length_append, ioC_length, List.length_drop, HL.out]; omega
      have d1 := hO.cellAt (j * 2) (by omega)
      rw [vC_get1 _ j hjl] at d1
      have f1 := hO.frozenAt (j * 2)
      have hst := (hO.stored (j * 2) (.int .i64 q)).1
      have d2 := hst.cellAt (j * 2 + 1) (by omega)
      rw [List.getElem?_set_ne (by omega), vC_get2 _ j hjl] at d2
      have f2 := hst.frozenAt (j * 2 + 1)
      have hst2 := (hst.stored (j * 2 + 1) (.int .i64 (q + 1))).1
      generalize (ioC k j ++ xs.drop j)[j] = z at d1 d2
      rw [vC_set_list _ j (q, q + 1), hq, markC_step k xs j (by rw [HL.out]; omega), ← hq] at hst2
      have q0 : 0 ≤ q := by omega
      have q1 : q ≤ 4398046511104 := by omega
      have HS := Lib.hid hst2
      have HQ := Lib.hid hq
      clear hst hst2 hO hq
      go_wp2
      exact ⟨⟨j + 1, q + 2, by omega, by go_num, by rw [show q + 1 + 1 = q + 2 from by omega], by have := HQ.out; omega, HS.out, grown_set (p := ⟨g, j * 2 + 1, none⟩) (grown_set (p := ⟨g, j * 2, none⟩) hg rfl _) rfl _⟩, by simp [intOf]; omega⟩
    · have hkk : j = n := by omega
      subst hkk
      rw [List.drop_of_length_le (by rw [HL.out]; omega), List.append_nil] at hO
      have HO := Lib.hid hO
      have HQ := Lib.hid hq
      clear hO hq
      go_wp2
      go_ret
      exact ⟨by rw [← HQ.out]; rfl, HO.out, hg⟩
theorem heldCellS_l (A : Option Addr) (n c : Nat) (k : Int) (w : World) (hr : Rd w A (vC (ioC k n))) (hn : n ≤ 1099511627776) (hk0 : 0 ≤ k) (hk1 : k ≤ 1099511627776) :
    Calls Try.prog 8 #[.slice A n c, .int .i64 k] w (Ret w (.int .i64 (k + 2 * n))) := by
  go_enter Try.func8, Try.ntmps8
  go_wp2
  go_loopw [1, 5] (fun t i wr => ∃ (j : Nat) (q : Int), j ≤ n ∧ i = .int .i64 j ∧ t = .int .i64 q ∧ q = k + 2 * j ∧ Below w.heap.size w wr) (fun _ i _ => n - (intOf i).toNat)
  case atStart => exact ⟨0, k, Nat.zero_le _, rfl, rfl, by simp, Below.refl _ _⟩
  case round =>
    obtain ⟨j, q, hj, rfl, rfl, hq, hb⟩ := hrel
    by_cases hlt : j < n
    · obtain ⟨g, off, rfl, hgw, c1, c2⟩ := RdC.at_ (hr.below hb) (k := j) (by rw [ioC_length]; omega)
      rw [ioC_get] at c1 c2
      simp only at c1 c2
      rw [← hq] at c1 c2
      have q0 : 0 ≤ q := by omega
      have q1 : q ≤ 4398046511104 := by omega
      have HQ := Lib.hid hq
      clear hq
      go_wp2
      exact ⟨⟨j + 1, q + 2, by omega, by go_num, by rw [show q + 1 + 1 = q + 2 from by omega], by have := HQ.out; omega, hb⟩, by simp [intOf]; omega⟩
    · have hkk : j = n := by omega
      subst hkk
      have HQ := Lib.hid hq
      clear hq
      go_wp2
      go_ret
      exact ⟨by rw [← HQ.out]; rfl, hb⟩
end Go.Proofs.Ytegnedpikpfjfaa

/- The law on ShapeOfWord. -/
namespace Go.Proofs.Ytegnedpikpfjfaa
open Go.RowKit
set_option linter.unusedVariables false
attribute [local go_sem ↓] Go.wp_at_zero Go.wp_at_succ
theorem own_nC_sow {w : World} {base e n c : Nat} {A : Option Addr} {xs : List C} (h : w.ownsRow base e 2 (.slice A n c) n (vC xs)) : xs.length = n := by
  have := own_len h
  rw [vC_length] at this
  omega
set_option maxHeartbeats 1600000 in
theorem law_FnExactShapeOfWord (s : ByteArray) (w : World) (hm : s.size ≤ maxLen) : Calls Try.prog 3 #[.string s] w (Ret w (.bool true)) := by
  by_cases hbig : 1048576 < s.size
  · have hI : (s.size : Int) > 1048576 := by omega
    go_enter Try.func3, Try.ntmps3
    go_wp2_with fail
    go_ret
    exact ⟨rfl, Below.refl _ _⟩
  · have hI : ¬ (s.size : Int) > 1048576 := by omega
    have hv6 := sowW_len s
    generalize hv : (sowW s).1 = vs at hv6
    generalize hb : (sowW s).2 = bb
    have HV := Lib.hid hv
    have HB := Lib.hid hb
    clear hv hb hbig
    go_enter Try.func3, Try.ntmps3
    go_wp2_with fail
    refine (ShapeOfWord_t s _).mono ?_
    rw [HV.out, HB.out]
    rintro e w1 ⟨A, mw, kw, rfl, ow, b1⟩
    have hmw := own_nC_sow ow
    have HMW := Lib.hid hmw
    have hwm : mw ≤ 1048576 := by omega
    clear hmw
    go_wp2_with fail
    refine (ShapeOfWord_k s _ hm).mono ?_
    rw [HV.out, HB.out]
    rintro e w2 ⟨G, mg, kg, rfl, og, b2⟩
    have hmg := own_nC_sow og
    have ow2 := own_keep ow b2
    have HMG := Lib.hid hmg
    have hgm : mg ≤ 1048576 := by omega
    clear hmg
    go_wp2_with fail
    refine (eqCellS_t _ _ _ _ _ _ vs _ (Rd.of_own og) (Rd.of_own ow2) HMG.out HMW.out (by omega)).mono ?_
    rintro e w3 ⟨rfl, b3⟩
    have hGge := own_lt og
    have hWlt := own_lt ow
    have hsz2 := b2.size
    go_wp2_with fail
    refine (markCellS_l _ _ _ _ _ _ _ (own_keep og b3) (by omega) (by omega) (by omega)).mono ?_
    rintro e w4 ⟨rfl, oG4, g4⟩
    have rW4 : Rd w4 A (vC vs) := (Rd.of_own (own_keep ow2 b3)).grown g4 (fun g h e => by have h1 := (hWlt g h).2; have h2 := (hGge g e.symm).1; omega)
    have b04 : Below w.heap.size w w4 := bel_app (bel_trans (bel_trans b1 b2) b3) g4 (fun g h => by have := (hGge g h).1; have := b1.size; omega)
    go_wp2_with fail
    refine (heldCellS_l _ _ _ _ _ (Rd.of_own oG4) (by omega) (by omega) (by omega)).mono ?_
    rintro e w5 ⟨rfl, b5⟩
    go_wp2_with fail
    refine (ShapeOfWord_k s _ hm).mono ?_
    rw [HV.out, HB.out]
    rintro e w6 ⟨K, mk, kk, rfl, ok6, b6⟩
    have hmk := own_nC_sow ok6
    have HMK := Lib.hid hmk
    have hkm : mk ≤ 1048576 := by omega
    have b46 : Below w4.heap.size w4 w6 := bel_trans b5 b6
    clear hmk
    go_wp2_with fail
    refine (eqCellS_t _ _ _ _ _ _ vs _ (Rd.of_own ok6) (rW4.below b46) HMK.out HMW.out (by omega)).mono ?_
    rintro e w7 ⟨rfl, b7⟩
    go_wp2_with fail
    refine (heldCellS_l _ _ _ _ _ ((Rd.of_own oG4).below (bel_trans b46 b7)) (by omega) (by omega) (by omega)).mono ?_
    rintro e w8 ⟨rfl, b8⟩
    go_wp2_with fail
    go_ret
    exact ⟨rfl, bel_trans (bel_trans (bel_trans b04 b46) b7) b8⟩
end Go.Proofs.Ytegnedpikpfjfaa
