/- Where motions carry places: the reference. -/
import Derived.Test.YtcgohceakjjlhaaCarry
import Derived.Outline
import Derived.WalkLawsBesides
import Derived.WalkSpells
import Derived.BigQuiet
import Derived.Deep.QuietTactic
import Derived.Deep.RegionHeld3
import Derived.Deep.RegionWith
import Derived.Deep.DeepCutAuto
import Derived.Deep.CutBlock
import Derived.Deep.DrawnRows
namespace Go.Proofs.Ytcgohceakjjlhaa
open Go.RowKit
set_option linter.unusedVariables false
attribute [local go_sem ↓] Go.wp_at_zero Go.wp_at_succ
set_option maxHeartbeats 1600000 in
theorem l23Place_even (a b x y : Int) (m : Nat) (w : World) (hq : okQ (a, b, x, y)) (hm : m < 8) (hg : m % 2 = 0) :
    Calls Try.prog 69 #[.int .i64 a, .int .i64 b, .int .i64 x, .int .i64 y, .int .i64 (m : Int)] w (Ret w (.tuple #[.int .i64 (carry a b x y m).2.2.1, .int .i64 (carry a b x y m).2.2.2, .bool true])) := by
  obtain ⟨r, hr⟩ : ∃ r, m % 4 = r := ⟨_, rfl⟩
  have hr4 : r < 4 := by omega
  have hmr : (m : Int) % 4 = (r : Int) := by omega
  have hm0 : (0 : Int) ≤ (m : Int) := by omega
  have hm7 : (m : Int) ≤ 7 := by omega
  obtain ⟨h1, h2, h3, h4, h5, h6, h7, h8⟩ := id hq
  simp only at h1 h2 h3 h4 h5 h6 h7 h8
  have hok := okQ_start m hq
  have HC : Hid (carry a b x y m = rot r (startQ a b x y m)) := by show carry a b x y m = _; unfold carry; rw [hr]
  obtain ⟨x1, hx1⟩ : ∃ x1, (if 4 ≤ m then a - 1 - x else x) = x1 := ⟨_, rfl⟩
  have hst : startQ a b x y m = (a, b, x1, y) := by unfold startQ; rw [hx1]
  rw [hst] at hok
  have HST := Lib.hid hst
  have HOK := Lib.hid hok
  clear hst hok hr hq
  have hm2 : (m : Int) % 2 = 0 := by omega
  clear hg
  by_cases h4m : 4 ≤ m
  · rw [if_pos h4m] at hx1
    have h4i : (m : Int) ≥ 4 := by omega
    go_enter Try.func69, Try.ntmps69
    go_wp2
    go_loopw [13, 0, 1, 2, 3] (fun e13 e0 e1 e2 e3 wr => ∃ (j : Nat) (a' b' x' y' : Int), j ≤ r ∧ e13 = .int .i64 j ∧ e0 = .int .i64 a' ∧ e1 = .int .i64 b' ∧ e2 = .int .i64 x' ∧ e3 = .int .i64 y' ∧ rot j (startQ a b x y m) = (a', b', x', y') ∧ Below w.heap.size w wr) (fun e13 _ _ _ _ _ => r - (intOf e13).toNat)
    case atStart => exact ⟨0, a, b, x1, y, Nat.zero_le _, rfl, rfl, rfl, by rw [← hx1], rfl, HST.out, Below.refl _ _⟩
    case round =>
      obtain ⟨j, a', b', x', y', hj, rfl, rfl, rfl, rfl, rfl, hrot, hb⟩ := hrel
      have ho : okQ (a', b', x', y') := by rw [← hrot, HST.out]; exact okQ_rot HOK.out j
      obtain ⟨k1, k2, k3, k4, k5, k6, k7, k8⟩ := ho
      simp only at k1 k2 k3 k4 k5 k6 k7 k8
      by_cases hlt : j < r
      · have hj1 : (j : Int) < (r : Int) := by omega
        have HR := Lib.hid (rot_step j _ hrot)
        clear hrot
        go_wp2
        exact ⟨⟨j + 1, b', a', b' - 1 - y', x', by omega, by go_num, rfl, rfl, rfl, rfl, HR.out, hb⟩, by simp [intOf]; omega⟩
      · have hjr : j = r := by omega
        subst hjr
        have HV : Hid (carry a b x y m = (a', b', x', y')) := by show carry a b x y m = _; rw [HC.out, hrot]
        have hj1 : ¬ (j : Int) < (j : Int) := by omega
        clear hrot
        go_wp2
        exact bodyPost_ret (v := .tuple #[.int .i64 x', .int .i64 y', .bool true]) (by simp [results, Try.results69, go_sem]) rfl ⟨by rw [HV.out], hb⟩
  · rw [if_neg h4m] at hx1
    subst hx1
    have h4i : ¬ (m : Int) ≥ 4 := by omega
    go_enter Try.func69, Try.ntmps69
    go_wp2
    go_loopw [13, 0, 1, 2, 3] (fun e13 e0 e1 e2 e3 wr => ∃ (j : Nat) (a' b' x' y' : Int), j ≤ r ∧ e13 = .int .i64 j ∧ e0 = .int .i64 a' ∧ e1 = .int .i64 b' ∧ e2 = .int .i64 x' ∧ e3 = .int .i64 y' ∧ rot j (startQ a b x y m) = (a', b', x', y') ∧ Below w.heap.size w wr) (fun e13 _ _ _ _ _ => r - (intOf e13).toNat)
    case atStart => exact ⟨0, a, b, x, y, Nat.zero_le _, rfl, rfl, rfl, rfl, rfl, HST.out, Below.refl _ _⟩
    case round =>
      obtain ⟨j, a', b', x', y', hj, rfl, rfl, rfl, rfl, rfl, hrot, hb⟩ := hrel
      have ho : okQ (a', b', x', y') := by rw [← hrot, HST.out]; exact okQ_rot HOK.out j
      obtain ⟨k1, k2, k3, k4, k5, k6, k7, k8⟩ := ho
      simp only at k1 k2 k3 k4 k5 k6 k7 k8
      by_cases hlt : j < r
      · have hj1 : (j : Int) < (r : Int) := by omega
        have HR := Lib.hid (rot_step j _ hrot)
        clear hrot
        go_wp2
        exact ⟨⟨j + 1, b', a', b' - 1 - y', x', by omega, by go_num, rfl, rfl, rfl, rfl, HR.out, hb⟩, by simp [intOf]; omega⟩
      · have hjr : j = r := by omega
        subst hjr
        have HV : Hid (carry a b x y m = (a', b', x', y')) := by show carry a b x y m = _; rw [HC.out, hrot]
        have hj1 : ¬ (j : Int) < (j : Int) := by omega
        clear hrot
        go_wp2
        exact bodyPost_ret (v := .tuple #[.int .i64 x', .int .i64 y', .bool true]) (by simp [results, Try.results69, go_sem]) rfl ⟨by rw [HV.out], hb⟩
set_option maxHeartbeats 1600000 in
theorem l23Place_square (a b x y : Int) (m : Nat) (w : World) (hq : okQ (a, b, x, y)) (hm : m < 8) (hg : m % 2 = 1 ∧ a = b) :
    Calls Try.prog 69 #[.int .i64 a, .int .i64 b, .int .i64 x, .int .i64 y, .int .i64 (m : Int)] w (Ret w (.tuple #[.int .i64 (carry a b x y m).2.2.1, .int .i64 (carry a b x y m).2.2.2, .bool true])) := by
  obtain ⟨hg1, rfl⟩ := hg
  obtain ⟨r, hr⟩ : ∃ r, m % 4 = r := ⟨_, rfl⟩
  have hr4 : r < 4 := by omega
  have hmr : (m : Int) % 4 = (r : Int) := by omega
  have hm0 : (0 : Int) ≤ (m : Int) := by omega
  have hm7 : (m : Int) ≤ 7 := by omega
  obtain ⟨h1, h2, h3, h4, h5, h6, h7, h8⟩ := id hq
  simp only at h1 h2 h3 h4 h5 h6 h7 h8
  have hok := okQ_start m hq
  have HC : Hid (carry a a x y m = rot r (startQ a a x y m)) := by show carry a a x y m = _; unfold carry; rw [hr]
  obtain ⟨x1, hx1⟩ : ∃ x1, (if 4 ≤ m then a - 1 - x else x) = x1 := ⟨_, rfl⟩
  have hst : startQ a a x y m = (a, a, x1, y) := by unfold startQ; rw [hx1]
  rw [hst] at hok
  have HST := Lib.hid hst
  have HOK := Lib.hid hok
  clear hst hok hr hq
  have hm2 : (m : Int) % 2 = 1 := by omega
  clear hg1
  by_cases h4m : 4 ≤ m
  · rw [if_pos h4m] at hx1
    have h4i : (m : Int) ≥ 4 := by omega
    go_enter Try.func69, Try.ntmps69
    go_wp2
    go_loopw [13, 0, 1, 2, 3] (fun e13 e0 e1 e2 e3 wr => ∃ (j : Nat) (a' b' x' y' : Int), j ≤ r ∧ e13 = .int .i64 j ∧ e0 = .int .i64 a' ∧ e1 = .int .i64 b' ∧ e2 = .int .i64 x' ∧ e3 = .int .i64 y' ∧ rot j (startQ a a x y m) = (a', b', x', y') ∧ Below w.heap.size w wr) (fun e13 _ _ _ _ _ => r - (intOf e13).toNat)
    case atStart => exact ⟨0, a, a, x1, y, Nat.zero_le _, rfl, rfl, rfl, by rw [← hx1], rfl, HST.out, Below.refl _ _⟩
    case round =>
      obtain ⟨j, a', b', x', y', hj, rfl, rfl, rfl, rfl, rfl, hrot, hb⟩ := hrel
      have ho : okQ (a', b', x', y') := by rw [← hrot, HST.out]; exact okQ_rot HOK.out j
      obtain ⟨k1, k2, k3, k4, k5, k6, k7, k8⟩ := ho
      simp only at k1 k2 k3 k4 k5 k6 k7 k8
      by_cases hlt : j < r
      · have hj1 : (j : Int) < (r : Int) := by omega
        have HR := Lib.hid (rot_step j _ hrot)
        clear hrot
        go_wp2
        exact ⟨⟨j + 1, b', a', b' - 1 - y', x', by omega, by go_num, rfl, rfl, rfl, rfl, HR.out, hb⟩, by simp [intOf]; omega⟩
      · have hjr : j = r := by omega
        subst hjr
        have HV : Hid (carry a a x y m = (a', b', x', y')) := by show carry a a x y m = _; rw [HC.out, hrot]
        have hj1 : ¬ (j : Int) < (j : Int) := by omega
        clear hrot
        go_wp2
        exact bodyPost_ret (v := .tuple #[.int .i64 x', .int .i64 y', .bool true]) (by simp [results, Try.results69, go_sem]) rfl ⟨by rw [HV.out], hb⟩
  · rw [if_neg h4m] at hx1
    subst hx1
    have h4i : ¬ (m : Int) ≥ 4 := by omega
    go_enter Try.func69, Try.ntmps69
    go_wp2
    go_loopw [13, 0, 1, 2, 3] (fun e13 e0 e1 e2 e3 wr => ∃ (j : Nat) (a' b' x' y' : Int), j ≤ r ∧ e13 = .int .i64 j ∧ e0 = .int .i64 a' ∧ e1 = .int .i64 b' ∧ e2 = .int .i64 x' ∧ e3 = .int .i64 y' ∧ rot j (startQ a a x y m) = (a', b', x', y') ∧ Below w.heap.size w wr) (fun e13 _ _ _ _ _ => r - (intOf e13).toNat)
    case atStart => exact ⟨0, a, a, x, y, Nat.zero_le _, rfl, rfl, rfl, rfl, rfl, HST.out, Below.refl _ _⟩
    case round =>
      obtain ⟨j, a', b', x', y', hj, rfl, rfl, rfl, rfl, rfl, hrot, hb⟩ := hrel
      have ho : okQ (a', b', x', y') := by rw [← hrot, HST.out]; exact okQ_rot HOK.out j
      obtain ⟨k1, k2, k3, k4, k5, k6, k7, k8⟩ := ho
      simp only at k1 k2 k3 k4 k5 k6 k7 k8
      by_cases hlt : j < r
      · have hj1 : (j : Int) < (r : Int) := by omega
        have HR := Lib.hid (rot_step j _ hrot)
        clear hrot
        go_wp2
        exact ⟨⟨j + 1, b', a', b' - 1 - y', x', by omega, by go_num, rfl, rfl, rfl, rfl, HR.out, hb⟩, by simp [intOf]; omega⟩
      · have hjr : j = r := by omega
        subst hjr
        have HV : Hid (carry a a x y m = (a', b', x', y')) := by show carry a a x y m = _; rw [HC.out, hrot]
        have hj1 : ¬ (j : Int) < (j : Int) := by omega
        clear hrot
        go_wp2
        exact bodyPost_ret (v := .tuple #[.int .i64 x', .int .i64 y', .bool true]) (by simp [results, Try.results69, go_sem]) rfl ⟨by rw [HV.out], hb⟩
theorem l23Place_no (a b x y : Int) (m : Nat) (w : World) (hm : m < 8) (hg : m % 2 = 1) (hab : a ≠ b) :
    Calls Try.prog 69 #[.int .i64 a, .int .i64 b, .int .i64 x, .int .i64 y, .int .i64 (m : Int)] w (Ret w (.tuple #[.int .i64 0, .int .i64 0, .bool false])) := by
  have hm2 : (m : Int) % 2 = 1 := by omega
  have hm0 : (0 : Int) ≤ (m : Int) := by omega
  have e : (a == b) = false := beq_eq_false_iff_ne.2 hab
  clear hab
  go_enter Try.func69, Try.ntmps69
  go_wp2
  exact bodyPost_ret (v := .tuple #[.int .i64 0, .int .i64 0, .bool false]) (by simp [results, Try.results69, go_sem]) rfl ⟨rfl, (by (repeat (first | with_reducible exact Below.refl _ _ | with_reducible assumption | with_reducible apply bel_alloc | with_reducible apply bel_drew | with_reducible apply bel_drewN | ((with_reducible refine bel_set ?_ ?_); rotate_left; (simp <;> omega)) | (with_reducible refine bel_trans ?_ (by with_reducible assumption)))))⟩
end Go.Proofs.Ytcgohceakjjlhaa
