/- Shapes counted by growth: the reference's number, the two numbers, the law. -/
import Derived.Test.YtcgohceakjjlhaaGrown
import Derived.Test.YtcgohceakjjlhaaGrwS
import Derived.Outline
import Derived.WalkLawsBesides
import Derived.WalkSpells
import Derived.BigQuiet
import Derived.Deep.QuietTactic
import Derived.Deep.RegionHeld3
import Derived.Deep.RegionWith
import Derived.Deep.DeepCutAuto
import Derived.Deep.CutBlock
import Derived.Deep.DrawnRows
namespace Go.Proofs.Ytcgohceakjjlhaa
open Go.RowKit
set_option linter.unusedVariables false
attribute [local go_sem ↓] Go.wp_at_zero Go.wp_at_succ

theorem len_fix0 : (fixV 0).length = 1 := rfl
theorem len_fix1 : (fixV 1).length = 2 := by rw [← fixF_eq]; decide +kernel
theorem len_fix2 : (fixV 2).length = 6 := by rw [← fixF_eq]; decide +kernel
theorem len_fix3 : (fixV 3).length = 19 := by rw [← fixF_eq]; decide +kernel
theorem len_fix4 : (fixV 4).length = 63 := by rw [← fixF_eq]; decide +kernel
theorem len_fix5 : (fixV 5).length = 216 := by rw [← fixF_eq]; decide +kernel
theorem growC_all : growC 0 [(0, 0)] [(0, 0)] = 1 ∧ growC 1 [(0, 0)] [(0, 0)] = 3 ∧ growC 2 [(0, 0)] [(0, 0)] = 9 ∧ growC 3 [(0, 0)] [(0, 0)] = 28 ∧ growC 4 [(0, 0)] [(0, 0)] = 91 ∧ growC 5 [(0, 0)] [(0, 0)] = 307 := by decide +kernel
def cgS (n : Int) : Int := if 1 ≤ n ∧ n ≤ 6 then (if n = 1 then (growC 0 [(0, 0)] [(0, 0)] : Nat) else (growC (n.toNat - 1) [(0, 0)] [(0, 0)] : Nat) - (growC (n.toNat - 2) [(0, 0)] [(0, 0)] : Nat)) else -1
theorem cg_eq (n : Int) : cgS n = cntV n 6 := by
  by_cases h : 1 ≤ n ∧ n ≤ 6
  · obtain ⟨g0, g1, g2, g3, g4, g5⟩ := growC_all
    rcases (by omega : n = 1 ∨ n = 2 ∨ n = 3 ∨ n = 4 ∨ n = 5 ∨ n = 6) with rfl | rfl | rfl | rfl | rfl | rfl
    · simp [cgS, cntV, g0, len_fix0]
    · simp [cgS, cntV, g0, g1, len_fix1]
    · simp [cgS, cntV, g1, g2, len_fix2]
    · simp [cgS, cntV, g2, g3, len_fix3]
    · simp [cgS, cntV, g3, g4, len_fix4]
    · simp [cgS, cntV, g4, g5, len_fix5]
  · unfold cgS cntV
    rw [if_neg h, if_neg h]
set_option maxHeartbeats 1600000 in
theorem CountByGrowth_s (n : Int) (w : World) : Calls Try.prog 28 #[.int .i64 n] w (Ret w (.int .i64 (cgS n))) := by
  by_cases h : 1 ≤ n ∧ n ≤ 6
  · have hlit : ∀ W : World, (W.alloc (.cells #[.int .i64 0, .int .i64 0] 54)).ownsRow W.heap.size 54 2 (.slice (some ⟨W.heap.size, 0, none⟩) 1 1) 1 (vC [(0, 0)]) := fun W => own_newC W _ 0 0 (Nat.le_refl _)
    have hn0 : ∀ (r : Int), 0 ≤ r → ∀ x ∈ [((0 : Int), (0 : Int))], near0 r x := by
      intro r hr x hx
      simp only [List.mem_singleton] at hx
      subst hx
      unfold near0
      simp only
      omega
    obtain ⟨k, hk⟩ : ∃ k : Nat, n = ((k + 1 : Nat) : Int) := ⟨(n - 1).toNat, by omega⟩
    have hk5 : k ≤ 5 := by omega
    have hb1 := growC_le k [(0, 0)] [(0, 0)] (by simp; omega)
    have h25 : 25 ^ (k + 1) ≤ 244140625 := by
      have : 25 ^ (k + 1) ≤ 25 ^ 6 := Nat.pow_le_pow_right (by omega) (by omega)
      simpa using this
    obtain ⟨a, ha⟩ : ∃ a, growC k [(0, 0)] [(0, 0)] = a := ⟨_, rfl⟩
    rw [ha] at hb1
    have hab : a ≤ 244140625 := by omega
    have HB := Lib.hid h
    have HLIT := Lib.hid hlit
    have HN0 := Lib.hid hn0
    have HA := Lib.hid ha
    have hC := l25Grow_s k (some ⟨w.heap.size, 0, none⟩) 1 1 [(0, 0)] (some ⟨w.heap.size, 0, none⟩) 1 1 [(0, 0)]
    by_cases h1 : n = 1
    · have hk0 : k = 0 := by omega
      have HV : Hid (cgS n = a) := by show cgS n = _; unfold cgS; rw [if_pos h, if_pos h1, ← ha, hk0]
      have e1 : (n == 1) = true := by rw [beq_iff_eq]; exact h1
      have HK := Lib.hid hk
      clear hk h h1 hk0 hC hlit hn0 ha hb1 h25
      go_enter Try.func28, Try.ntmps28
      go_wp2_with fail
      refine (l1In_t n 1 6 _ HB.out.1 HB.out.2).mono ?_
      rintro e w1 ⟨rfl, hb1⟩
      go_wp2_with fail
      rw [HK.out]
      refine (l25Grow_s k _ 1 1 [(0, 0)] _ 1 1 [(0, 0)] _ (Rd.of_own (HLIT.out w1)) (Rd.of_own (HLIT.out w1)) rfl rfl (by omega) (by omega) (by omega) (by omega) (HN0.out _ (by omega)) (HN0.out _ (by omega)) hk5).mono ?_
      rw [HA.out]
      rintro e w2 ⟨rfl, hb2⟩
      rw [← HK.out]
      go_wp2_with fail
      go_ret
      exact ⟨by rw [HV.out]; rfl, (by (repeat (first | with_reducible exact Below.refl _ _ | with_reducible assumption | with_reducible apply bel_alloc | with_reducible apply bel_drew | with_reducible apply bel_drewN | ((with_reducible refine bel_set ?_ ?_); rotate_left; (simp <;> omega)) | (with_reducible refine bel_trans ?_ (by with_reducible assumption)))))⟩
    · obtain ⟨j, hj⟩ : ∃ j : Nat, k = j + 1 := ⟨k - 1, by omega⟩
      have hb2 := growC_le j [(0, 0)] [(0, 0)] (by simp; omega)
      have h252 : 25 ^ (j + 1) ≤ 244140625 := by
        have : 25 ^ (j + 1) ≤ 25 ^ 6 := Nat.pow_le_pow_right (by omega) (by omega)
        simpa using this
      obtain ⟨b, hbv⟩ : ∃ b, growC j [(0, 0)] [(0, 0)] = b := ⟨_, rfl⟩
      rw [hbv] at hb2
      have hbb : b ≤ 244140625 := by omega
      have HV : Hid (cgS n = (a : Int) - (b : Int)) := by
        show cgS n = _
        unfold cgS
        rw [if_pos h, if_neg h1, ← ha, ← hbv, show n.toNat - 1 = k from by omega, show n.toNat - 2 = j from by omega]
      have e1 : (n == 1) = false := by rw [beq_eq_false_iff_ne]; exact h1
      have HK := Lib.hid hk
      have HBV := Lib.hid hbv
      have hn1 : n - 1 = ((j + 1 : Nat) : Int) := by omega
      have HN1 := Lib.hid hn1
      have hw1 : IntKind.i64.wrap (n - 1) = n - 1 := Go.IntWalk.i64_in _ (by omega)
      have hj5 : j ≤ 5 := by omega
      have hwab : IntKind.i64.wrap ((a : Int) - (b : Int)) = (a : Int) - (b : Int) := Go.IntWalk.i64_in _ (by omega)
      clear hk h h1 hC hlit hn0 ha hb1 h25 hj hb2 h252 hbv hn1
      go_enter Try.func28, Try.ntmps28
      go_wp2_with fail
      refine (l1In_t n 1 6 _ HB.out.1 HB.out.2).mono ?_
      rintro e w1 ⟨rfl, hb1⟩
      go_wp2_with fail
      rw [HK.out]
      refine (l25Grow_s k _ 1 1 [(0, 0)] _ 1 1 [(0, 0)] _ (Rd.of_own (HLIT.out w1)) (Rd.of_own (HLIT.out w1)) rfl rfl (by omega) (by omega) (by omega) (by omega) (HN0.out _ (by omega)) (HN0.out _ (by omega)) hk5).mono ?_
      rw [HA.out]
      rintro e w2 ⟨rfl, hb2⟩
      rw [← HK.out]
      have HR2 := Lib.hid (Rd.below (Rd.of_own (HLIT.out w1)) hb2)
      go_wp2_with fail
      rw [HN1.out]
      refine (l25Grow_s j _ 1 1 [(0, 0)] _ 1 1 [(0, 0)] _ HR2.out HR2.out rfl rfl (by omega) (by omega) (by omega) (by omega) (HN0.out _ (by omega)) (HN0.out _ (by omega)) hj5).mono ?_
      rw [HBV.out]
      rintro e w3 ⟨rfl, hb3⟩
      go_wp2_with fail
      go_ret
      exact ⟨by rw [HV.out]; rfl, bel_trans (bel_trans (bel_alloc hb1 _) hb2) hb3⟩
  · have HV : Hid (cgS n = -1) := by show cgS n = _; unfold cgS; rw [if_neg h]
    have HB := Lib.hid h
    clear h
    go_enter Try.func28, Try.ntmps28
    go_wp2_with fail
    refine (l1In_f n 1 6 _ HB.out).mono ?_
    rintro e w1 ⟨rfl, hb1⟩
    go_wp2_with fail
    go_ret
    exact ⟨by rw [HV.out]; rfl, hb1⟩
theorem law_FnExactCountByGrowth (n : Int) (w : World) (_h : (Lit.int .i64 n).wf = true) : Calls Try.prog 6 #[.int .i64 n] w (Ret w (.bool true)) := by
  obtain ⟨v, hv⟩ : ∃ v, cntV n 6 = v := ⟨_, rfl⟩
  have HV := Lib.hid hv
  have HE : Hid (cgS n = v) := (cg_eq n).trans hv
  have hne : (v != v) = false := by simp
  clear hv _h
  go_enter Try.func6, Try.ntmps6
  go_wp2_with fail
  refine (CountByGrowth_s n _).mono ?_
  rw [HE.out]
  rintro e w1 ⟨rfl, hb1⟩
  go_wp2_with fail
  refine (CountByGrowth_i n _).mono ?_
  rw [HV.out]
  rintro e w2 ⟨rfl, hb2⟩
  go_wp2_with fail
  go_ret
  exact ⟨rfl, bel_trans hb1 hb2⟩
end Go.Proofs.Ytcgohceakjjlhaa
