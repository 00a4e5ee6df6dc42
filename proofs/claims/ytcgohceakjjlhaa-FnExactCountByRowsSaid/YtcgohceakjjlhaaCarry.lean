/- Where motions carry places: both sides. -/
import Derived.Test.YtcgohceakjjlhaaMask
import Derived.Outline
import Derived.WalkLawsBesides
import Derived.WalkSpells
import Derived.BigQuiet
import Derived.Deep.QuietTactic
import Derived.Deep.RegionHeld3
import Derived.Deep.RegionWith
import Derived.Deep.DeepCutAuto
import Derived.Deep.CutBlock
import Derived.Deep.DrawnRows
namespace Go.Proofs.Ytcgohceakjjlhaa
open Go.RowKit
set_option linter.unusedVariables false
attribute [local go_sem ↓] Go.wp_at_zero Go.wp_at_succ
theorem rot_step (j : Nat) (q : Q4) {a b x y : Int} (h : rot j q = (a, b, x, y)) : rot (j + 1) q = (b, a, b - 1 - y, x) := by
  show quarter (rot j q) = _
  rw [h]; rfl
/-- The turning loop of carryPlace. -/
theorem carry_small {w h x y : Int} (hq : okQ (w, h, x, y)) (m : Nat) : okQ (carry w h x y m) := okQ_rot (okQ_start m hq) _
set_option maxHeartbeats 1600000 in
theorem carryPlace_i (a b x y : Int) (m : Nat) (w : World) (hq : okQ (a, b, x, y)) (hm : m < 8) :
    Calls Try.prog 72 #[.int .i64 a, .int .i64 b, .agg #[.int .i64 x, .int .i64 y], .int .i64 (m : Int)] w (Ret w (.agg #[.int .i64 (carry a b x y m).2.2.1, .int .i64 (carry a b x y m).2.2.2])) := by
  obtain ⟨r, hr⟩ : ∃ r, m % 4 = r := ⟨_, rfl⟩
  have hr4 : r < 4 := by omega
  have hmr : (m : Int) % 4 = (r : Int) := by omega
  have hm0 : (0 : Int) ≤ (m : Int) := by omega
  have hm7 : (m : Int) ≤ 7 := by omega
  obtain ⟨h1, h2, h3, h4, h5, h6, h7, h8⟩ := id hq
  simp only at h1 h2 h3 h4 h5 h6 h7 h8
  have hok := okQ_start m hq
  have HC : Hid (carry a b x y m = rot r (startQ a b x y m)) := by show carry a b x y m = _; unfold carry; rw [hr]
  obtain ⟨x1, hx1⟩ : ∃ x1, (if 4 ≤ m then a - 1 - x else x) = x1 := ⟨_, rfl⟩
  have hst : startQ a b x y m = (a, b, x1, y) := by unfold startQ; rw [hx1]
  rw [hst] at hok
  have HST := Lib.hid hst
  have HOK := Lib.hid hok
  clear hst hok hr hq
  by_cases h4m : 4 ≤ m
  · rw [if_pos h4m] at hx1
    have h4i : (m : Int) ≥ 4 := by omega
    go_enter Try.func72, Try.ntmps72
    go_wp2
    go_loopw [19, 0, 1] (fun e19 e0 e1 wr => ∃ (j : Nat) (a' b' x' y' : Int), j ≤ r ∧ e19 = .int .i64 j ∧ e0 = .int .i64 a' ∧ e1 = .int .i64 b' ∧ rot j (startQ a b x y m) = (a', b', x', y') ∧ Blk wr w.heap.size 54 #[.int .i64 x', .int .i64 y'] ∧ Blk wr (w.heap.size + 1) 54 #[.int .i64 0, .int .i64 0] ∧ Below w.heap.size w wr) (fun e19 _ _ _ => r - (intOf e19).toNat)
    case atStart =>
      subst hx1
      have hb1 : Blk ((w.alloc (.cells #[.int .i64 (a - 1 - x), .int .i64 y] 54)).alloc (.cells #[.int .i64 0, .int .i64 0] 54)) w.heap.size 54 #[.int .i64 (a - 1 - x), .int .i64 y] := (Blk.new w 54 #[.int .i64 (a - 1 - x), .int .i64 y]).alloc _
      have hb2 : Blk ((w.alloc (.cells #[.int .i64 (a - 1 - x), .int .i64 y] 54)).alloc (.cells #[.int .i64 0, .int .i64 0] 54)) (w.heap.size + 1) 54 #[.int .i64 0, .int .i64 0] := by
        have h := Blk.new (w.alloc (.cells #[.int .i64 (a - 1 - x), .int .i64 y] 54)) 54 #[.int .i64 0, .int .i64 0]
        rw [show (w.alloc (.cells #[.int .i64 (a - 1 - x), .int .i64 y] 54)).heap.size = w.heap.size + 1 from by simp] at h
        exact h
      exact ⟨0, a, b, a - 1 - x, y, Nat.zero_le _, rfl, rfl, rfl, HST.out, hb1, hb2, (by (repeat (first | with_reducible exact Below.refl _ _ | with_reducible assumption | with_reducible apply bel_alloc | with_reducible apply bel_drew | with_reducible apply bel_drewN | ((with_reducible refine bel_set ?_ ?_); rotate_left; (simp <;> omega)) | (with_reducible refine bel_trans ?_ (by with_reducible assumption)))))⟩
    case round =>
      obtain ⟨j, a', b', x', y', hj, rfl, rfl, rfl, hrot, hB, hB2, hb⟩ := hrel
      have ho : okQ (a', b', x', y') := by rw [← hrot, HST.out]; exact okQ_rot HOK.out j
      obtain ⟨k1, k2, k3, k4, k5, k6, k7, k8⟩ := ho
      simp only at k1 k2 k3 k4 k5 k6 k7 k8
      have c0 : wr.cell? ⟨w.heap.size, 0, none⟩ = some (.int .i64 x') := by simpa using hB.cell 0
      have c1 : wr.cell? ⟨w.heap.size, 1, none⟩ = some (.int .i64 y') := by simpa using hB.cell 1
      have f0 := hB.frozen 0
      have f1 := hB.frozen 1
      have d0 : wr.cell? ⟨w.heap.size + 1, 0, none⟩ = some (.int .i64 0) := by simpa using hB2.cell 0
      have d1 : wr.cell? ⟨w.heap.size + 1, 1, none⟩ = some (.int .i64 0) := by simpa using hB2.cell 1
      have fd0 := hB2.frozen 0
      have fd1 := hB2.frozen 1
      by_cases hlt : j < r
      · have hj1 : (j : Int) < (r : Int) := by omega
        have HR := Lib.hid (rot_step j _ hrot)
        have hS : Blk ((wr.setCell ⟨w.heap.size, 0, none⟩ (.int .i64 (b' - 1 - y'))).setCell ⟨w.heap.size, 1, none⟩ (.int .i64 x')) w.heap.size 54 #[.int .i64 (b' - 1 - y'), .int .i64 x'] := by simpa using (hB.set_ 0 (.int .i64 (b' - 1 - y'))).set_ 1 (.int .i64 x')
        have hS2 : Blk ((wr.setCell ⟨w.heap.size, 0, none⟩ (.int .i64 (b' - 1 - y'))).setCell ⟨w.heap.size, 1, none⟩ (.int .i64 x')) (w.heap.size + 1) 54 #[.int .i64 0, .int .i64 0] := (hB2.far (by simp) _).far (by simp) _
        have HS := Lib.hid hS
        have HS2 := Lib.hid hS2
        clear hrot hB hB2 hS hS2
        go_wp2
        exact ⟨⟨j + 1, b', a', b' - 1 - y', x', by omega, by go_num, rfl, rfl, HR.out, HS.out, HS2.out, (by (repeat (first | with_reducible exact Below.refl _ _ | with_reducible assumption | with_reducible apply bel_alloc | with_reducible apply bel_drew | with_reducible apply bel_drewN | ((with_reducible refine bel_set ?_ ?_); rotate_left; (simp <;> omega)) | (with_reducible refine bel_trans ?_ (by with_reducible assumption)))))⟩, by simp [intOf]; omega⟩
      · have hjr : j = r := by omega
        subst hjr
        have HV : Hid (carry a b x y m = (a', b', x', y')) := by show carry a b x y m = _; rw [HC.out, hrot]
        have hj1 : ¬ (j : Int) < (j : Int) := by omega
        clear hrot hB hB2
        go_wp2
        exact bodyPost_ret (v := .agg #[.int .i64 x', .int .i64 y']) (by simp [results, Try.results72, go_sem, d0, d1]) rfl ⟨by rw [HV.out], (by (repeat (first | with_reducible exact Below.refl _ _ | with_reducible assumption | with_reducible apply bel_alloc | with_reducible apply bel_drew | with_reducible apply bel_drewN | ((with_reducible refine bel_set ?_ ?_); rotate_left; (simp <;> omega)) | (with_reducible refine bel_trans ?_ (by with_reducible assumption)))))⟩
  · rw [if_neg h4m] at hx1
    subst hx1
    have h4i : ¬ (m : Int) ≥ 4 := by omega
    go_enter Try.func72, Try.ntmps72
    go_wp2
    go_loopw [19, 0, 1] (fun e19 e0 e1 wr => ∃ (j : Nat) (a' b' x' y' : Int), j ≤ r ∧ e19 = .int .i64 j ∧ e0 = .int .i64 a' ∧ e1 = .int .i64 b' ∧ rot j (startQ a b x y m) = (a', b', x', y') ∧ Blk wr w.heap.size 54 #[.int .i64 x', .int .i64 y'] ∧ Blk wr (w.heap.size + 1) 54 #[.int .i64 0, .int .i64 0] ∧ Below w.heap.size w wr) (fun e19 _ _ _ => r - (intOf e19).toNat)
    case atStart =>
      have hb1 : Blk ((w.alloc (.cells #[.int .i64 x, .int .i64 y] 54)).alloc (.cells #[.int .i64 0, .int .i64 0] 54)) w.heap.size 54 #[.int .i64 x, .int .i64 y] := (Blk.new w 54 #[.int .i64 x, .int .i64 y]).alloc _
      have hb2 : Blk ((w.alloc (.cells #[.int .i64 x, .int .i64 y] 54)).alloc (.cells #[.int .i64 0, .int .i64 0] 54)) (w.heap.size + 1) 54 #[.int .i64 0, .int .i64 0] := by
        have h := Blk.new (w.alloc (.cells #[.int .i64 x, .int .i64 y] 54)) 54 #[.int .i64 0, .int .i64 0]
        rw [show (w.alloc (.cells #[.int .i64 x, .int .i64 y] 54)).heap.size = w.heap.size + 1 from by simp] at h
        exact h
      exact ⟨0, a, b, x, y, Nat.zero_le _, rfl, rfl, rfl, HST.out, hb1, hb2, (by (repeat (first | with_reducible exact Below.refl _ _ | with_reducible assumption | with_reducible apply bel_alloc | with_reducible apply bel_drew | with_reducible apply bel_drewN | ((with_reducible refine bel_set ?_ ?_); rotate_left; (simp <;> omega)) | (with_reducible refine bel_trans ?_ (by with_reducible assumption)))))⟩
    case round =>
      obtain ⟨j, a', b', x', y', hj, rfl, rfl, rfl, hrot, hB, hB2, hb⟩ := hrel
      have ho : okQ (a', b', x', y') := by rw [← hrot, HST.out]; exact okQ_rot HOK.out j
      obtain ⟨k1, k2, k3, k4, k5, k6, k7, k8⟩ := ho
      simp only at k1 k2 k3 k4 k5 k6 k7 k8
      have c0 : wr.cell? ⟨w.heap.size, 0, none⟩ = some (.int .i64 x') := by simpa using hB.cell 0
      have c1 : wr.cell? ⟨w.heap.size, 1, none⟩ = some (.int .i64 y') := by simpa using hB.cell 1
      have f0 := hB.frozen 0
      have f1 := hB.frozen 1
      have d0 : wr.cell? ⟨w.heap.size + 1, 0, none⟩ = some (.int .i64 0) := by simpa using hB2.cell 0
      have d1 : wr.cell? ⟨w.heap.size + 1, 1, none⟩ = some (.int .i64 0) := by simpa using hB2.cell 1
      have fd0 := hB2.frozen 0
      have fd1 := hB2.frozen 1
      by_cases hlt : j < r
      · have hj1 : (j : Int) < (r : Int) := by omega
        have HR := Lib.hid (rot_step j _ hrot)
        have hS : Blk ((wr.setCell ⟨w.heap.size, 0, none⟩ (.int .i64 (b' - 1 - y'))).setCell ⟨w.heap.size, 1, none⟩ (.int .i64 x')) w.heap.size 54 #[.int .i64 (b' - 1 - y'), .int .i64 x'] := by simpa using (hB.set_ 0 (.int .i64 (b' - 1 - y'))).set_ 1 (.int .i64 x')
        have hS2 : Blk ((wr.setCell ⟨w.heap.size, 0, none⟩ (.int .i64 (b' - 1 - y'))).setCell ⟨w.heap.size, 1, none⟩ (.int .i64 x')) (w.heap.size + 1) 54 #[.int .i64 0, .int .i64 0] := (hB2.far (by simp) _).far (by simp) _
        have HS := Lib.hid hS
        have HS2 := Lib.hid hS2
        clear hrot hB hB2 hS hS2
        go_wp2
        exact ⟨⟨j + 1, b', a', b' - 1 - y', x', by omega, by go_num, rfl, rfl, HR.out, HS.out, HS2.out, (by (repeat (first | with_reducible exact Below.refl _ _ | with_reducible assumption | with_reducible apply bel_alloc | with_reducible apply bel_drew | with_reducible apply bel_drewN | ((with_reducible refine bel_set ?_ ?_); rotate_left; (simp <;> omega)) | (with_reducible refine bel_trans ?_ (by with_reducible assumption)))))⟩, by simp [intOf]; omega⟩
      · have hjr : j = r := by omega
        subst hjr
        have HV : Hid (carry a b x y m = (a', b', x', y')) := by show carry a b x y m = _; rw [HC.out, hrot]
        have hj1 : ¬ (j : Int) < (j : Int) := by omega
        clear hrot hB hB2
        go_wp2
        exact bodyPost_ret (v := .agg #[.int .i64 x', .int .i64 y']) (by simp [results, Try.results72, go_sem, d0, d1]) rfl ⟨by rw [HV.out], (by (repeat (first | with_reducible exact Below.refl _ _ | with_reducible assumption | with_reducible apply bel_alloc | with_reducible apply bel_drew | with_reducible apply bel_drewN | ((with_reducible refine bel_set ?_ ?_); rotate_left; (simp <;> omega)) | (with_reducible refine bel_trans ?_ (by with_reducible assumption)))))⟩
end Go.Proofs.Ytcgohceakjjlhaa
