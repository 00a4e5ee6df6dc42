/- The places of a mask: the program. -/
import Derived.Test.YtcgohceakjjlhaaTurnS
import Derived.Test.YtcgohceakjjlhaaQtail
import Derived.Outline
import Derived.WalkLawsBesides
import Derived.WalkSpells
import Derived.BigQuiet
import Derived.Deep.QuietTactic
import Derived.Deep.RegionHeld3
import Derived.Deep.RegionWith
import Derived.Deep.DeepCutAuto
import Derived.Deep.CutBlock
import Derived.Deep.DrawnRows
namespace Go.Proofs.Ytcgohceakjjlhaa
open Go.RowKit
set_option linter.unusedVariables false
attribute [local go_sem ↓] Go.wp_at_zero Go.wp_at_succ
/-- The places of the bits below k, in order. -/
def plTo (n mask : Nat) : Nat → List C
  | 0 => []
  | k + 1 => plTo n mask k ++ (if mask.testBit k then [(((k % n : Nat) : Int), ((k / n : Nat) : Int))] else [])
theorem plTo_len (n mask : Nat) : ∀ k, (plTo n mask k).length ≤ k
  | 0 => Nat.le_refl _
  | k + 1 => by
    have := plTo_len n mask k
    show (plTo n mask k ++ _).length ≤ _
    rw [List.length_append]
    split <;> simp <;> omega
theorem plTo_end {n mask k : Nat} (h : mask / 2 ^ k = 0) : ∀ j, k ≤ j → plTo n mask j = plTo n mask k := by
  intro j hj
  induction j with
  | zero => rw [show k = 0 from by omega]
  | succ j ih =>
    by_cases e : k = j + 1
    · rw [e]
    · have hb : mask.testBit j = false := by
        have hlt : mask < 2 ^ k := (Nat.div_eq_zero_iff_lt (Nat.two_pow_pos k)).1 h
        exact Nat.testBit_lt_two_pow (Nat.lt_of_lt_of_le hlt (Nat.pow_le_pow_right (by decide) (by omega)))
      show plTo n mask j ++ _ = _
      rw [hb, ih (by omega)]
      simp
section
variable (w : World) {ops : Array Oper} {rest : List Oper} {o : Oper} {a : Act} {Q : Exit → Act → World → Prop}
theorem wpC (s x : Operand) {K : Act → World → Prop} (ho : o.op = .call { callee := .builtin .append, args := #[s, x], argTypes := #[37, 37] })
    (base : Nat) (A : Option Addr) (n c : Nat) (l : List C) (hs : a.eval s = .slice A n c) (hown : w.ownsRow base 54 2 (.slice A n c) n (vC l))
    (A2 : Option Addr) (m c2 : Nat) (l2 : List C) (hx : a.eval x = .slice A2 m c2) (hr : Rd w A2 (vC l2)) (hl : l2.length = m) (hb : n + m ≤ 1099511627776) (hbase : base ≤ w.heap.size)
    (h : ∀ A' c' w', w'.ownsRow base 54 2 (.slice A' (n + m) c') (n + m) (vC (l ++ l2)) → w.grownBy w' (ob A) → (ob A' = ob A ∨ ob A' = some w.heap.size) → K (a.put o.dst (.slice A' (n + m) c')) w') :
    o.wp Try.prog a w K Q := by
  obtain ⟨i0, hi, hz0, hz1, hz2⟩ := info_parts infoC
  refine wp_app w s x _ ho base _ i0 _ 2 16 Try.underlying37 hi hz0 hz1 hz2 rfl (by omega) A n c _ hs hown A2 m c2 _ hx hr (by rw [vC_length, hl]) (vC_one _) (by unfold maxLen; omega) (by omega) hbase ?_
  intro A' c' w' h1
  rw [← vC_append] at h1
  exact h A' c' w' h1
end
set_option maxHeartbeats 1600000 in
theorem places_i (n mask N : Nat) (w : World) (hn : 1 ≤ n ∧ n ≤ 6) (hN : N ≤ 36) (hmask : mask < 2 ^ N) :
    Calls Try.prog 71 #[.int .i64 (n : Int), .int .i64 (mask : Int)] w (RetS w 54 2 (vC (plTo n mask N))) := by
  have h62 : (2 : Nat) ^ N ≤ 2 ^ 36 := Nat.pow_le_pow_right (by decide) hN
  obtain ⟨hn1, hn6⟩ := hn
  have hmk : mask < 2 ^ 62 := by omega
  have HM := Lib.hid hmask
  clear hmask h62
  go_enter Try.func71, Try.ntmps71
  go_wp2
  go_loopw [6, 5] (fun i e wr => ∃ (k q cq : Nat) (A : Option Addr), k ≤ N ∧ q ≤ k ∧ i = .int .i64 k ∧ e = .slice A q cq ∧ wr.ownsRow w.heap.size 54 2 (.slice A q cq) q (vC (plTo n mask k)) ∧ Below w.heap.size w wr) (fun i _ _ => N - (intOf i).toNat)
  case atStart => exact ⟨0, 0, 0, none, Nat.zero_le _, Nat.le_refl _, rfl, rfl, own_nil _ _ _ _, Below.refl _ _⟩
  case round =>
    obtain ⟨k, q, cq, A, hk, hqk, rfl, rfl, hown, hb⟩ := hrel
    have hk0 : (0 : Int) ≤ (k : Int) := by omega
    have hk64 : (k : Int) ≤ 64 := by omega
    obtain ⟨d, hd⟩ : ∃ d, mask / 2 ^ k = d := ⟨_, rfl⟩
    have hdI : (mask : Int) / 2 ^ k = (d : Int) := by rw [← hd]; simp
    have hbit := bit_test mask k hmk
    rw [hdI] at hbit
    by_cases hd0 : d = 0
    · have hend := plTo_end (n := n) (hd.trans hd0) N hk
      rw [← hend] at hown
      have HO := Lib.hid hown
      have hz : ((d : Int) == 0) = true := by simp [hd0]
      clear hown hend hd hd0
      go_wp2
      go_ret
      exact ⟨_, _, _, rfl, HO.out, hb⟩
    · have hkN : k < N := by
        rcases Nat.lt_or_ge k N with h | h
        · exact h
        · exfalso
          have : mask < 2 ^ k := Nat.lt_of_lt_of_le HM.out (Nat.pow_le_pow_right (by decide) h)
          rw [Nat.div_eq_of_lt this] at hd
          exact hd0 hd.symm
      have hz : ((d : Int) == 0) = false := beq_eq_false_iff_ne.2 (by omega)
      obtain ⟨xk, hxk⟩ : ∃ xk, k % n = xk := ⟨_, rfl⟩
      obtain ⟨yk, hyk⟩ : ∃ yk, k / n = yk := ⟨_, rfl⟩
      have hstep : plTo n mask (k + 1) = plTo n mask k ++ (if mask.testBit k then [((xk : Int), (yk : Int))] else []) := by rw [← hxk, ← hyk]; rfl
      have HO := Lib.hid hown
      clear hown hd hd0
      cases hb1 : mask.testBit k with
      | false =>
        rw [hb1] at hbit hstep
        have HS := Lib.hid (hstep.trans (List.append_nil _))
        clear hstep hb1 hxk hyk
        go_wp2_with fail
        exact ⟨⟨k + 1, q, cq, A, by omega, by omega, by go_num, rfl, by rw [HS.out]; exact HO.out, hb⟩, by simp [intOf]; omega⟩
      | true =>
        rw [hb1] at hbit
        rw [hb1, if_pos rfl] at hstep
        have HS := Lib.hid hstep
        have e1 : (k : Int) % (n : Int) = (xk : Int) := by rw [← hxk]; rfl
        have e2 : (k : Int) / (n : Int) = (yk : Int) := by rw [← hyk]; rfl
        have e3 : (k : Int).tmod (n : Int) = (xk : Int) := by rw [Int.tmod_eq_emod_of_nonneg hk0]; exact e1
        have e4 : (k : Int).tdiv (n : Int) = (yk : Int) := by rw [Int.tdiv_eq_ediv_of_nonneg hk0]; exact e2
        have hyk36 : yk ≤ 36 := by rw [← hyk]; have := Nat.div_le_self k n; omega
        have hxk36 : xk ≤ 36 := by rw [← hxk]; have := Nat.mod_lt k (show 0 < n by omega); omega
        have e5 : IntKind.i64.wrap (yk : Int) = (yk : Int) := Go.IntWalk.i64_in _ (by omega)
        have e6 : IntKind.i64.wrap (xk : Int) = (xk : Int) := Go.IntWalk.i64_in _ (by omega)
        have hnn : ¬ n = 0 := by omega
        have hbz := hb.size
        clear hstep hb1
        go_wp2_with fail
        (refine wp_region_tailN (C := Gr wr A) 8 (by kernel_rfl) (by kernel_rfl) (Gr.drawn _ _) (fun _ _ h k => h.ext k) ?_; simp only [List.take_succ_cons, List.take_zero, List.drop_succ_cons, List.drop_zero]; (repeat (first | (refine headSkip (by rfl) rfl ?_; simp only [List.setIfInBounds_toArray, List.set_cons_zero, List.set_cons_succ]) | (refine headV (v := ?_) (by rfl) rfl (fun w' hcw => ?_) ?_; rotate_left; ((try dsimp only at hcw); have hbc := hcw.cells; go_simp; first | done | with_reducible rfl | fail); simp only [List.setIfInBounds_toArray, List.set_cons_zero, List.set_cons_succ]))); unfold wpHead)
        (refine tailK (by rfl) (fun w3 hc3 he3 K hK => ?_); go_simp; refine hK _ _ (hc3.ext (by (repeat (first | with_reducible exact Below.refl _ _ | with_reducible assumption | with_reducible apply bel_alloc | with_reducible apply bel_drew | with_reducible apply bel_drewN | ((with_reducible refine bel_set ?_ ?_); rotate_left; (simp <;> omega)) | (with_reducible refine bel_trans ?_ (by with_reducible assumption)))))) ?_; clear hK K)
        (refine tailK (by rfl) (fun w4 hc4 he4 K hK => ?_); refine wpC _ _ _ rfl w.heap.size A q cq (plTo n mask k) rfl (own_keep ((own_keep HO.out he3).alloc _) he4) _ 1 1 [((xk : Int), (yk : Int))] rfl (Rd.below (rd_newC _ _ _ _) he4) rfl (by omega) (by have h2 := he3.size; have h3 := he4.size; simp at h3; omega) ?_; intro A2 c2 w5 hown5 hg5 _; refine hK _ _ (Gr.trans hc4 hg5) ?_; clear hK K; simp only [Act.put, List.setIfInBounds_toArray, List.set_cons_zero, List.set_cons_succ])
        (refine tailK (by rfl) (fun w6 hc6 he6 K hK => ?_); go_simp; refine hK _ _ (hc6) ?_; clear hK K)
        (refine fun w7 hc7 he7 => NoPanic.normal ?_)
        have hb5 : Below w.heap.size w w5 := bel_app (bel_trans (bel_alloc (bel_trans hb he3) _) he4) hg5 (fun g' hg' => ((own_lt HO.out) g' hg').1)
        have HO3 := Lib.hid (own_keep (own_keep hown5 he6) he7)
        clear hown5
        go_wp2
        exact ⟨⟨k + 1, q + 1, c2, A2, by omega, by omega, by go_num, rfl, by rw [HS.out]; exact HO3.out, (by (repeat (first | with_reducible exact Below.refl _ _ | with_reducible assumption | with_reducible apply bel_alloc | with_reducible apply bel_drew | with_reducible apply bel_drewN | ((with_reducible refine bel_set ?_ ?_); rotate_left; (simp <;> omega)) | (with_reducible refine bel_trans ?_ (by with_reducible assumption)))))⟩, by simp [intOf]; omega⟩
end Go.Proofs.Ytcgohceakjjlhaa
