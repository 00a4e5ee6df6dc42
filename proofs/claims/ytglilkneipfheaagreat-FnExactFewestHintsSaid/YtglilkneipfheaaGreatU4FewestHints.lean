/- Texts of this claim, one behind the other: part 4. -/
import Derived.Test.YtglilkneipfheaaGreatU3FewestHints
import Derived.Outline
import Derived.WalkLawsBesides
import Derived.WalkSpells
import Derived.BigQuiet
import Derived.Deep.QuietTactic
import Derived.Deep.RegionHeld3
import Derived.Deep.RegionWith
import Derived.Deep.DeepCutAuto
import Derived.Deep.CutBlock
import Derived.Deep.DrawnRows
import Derived.Lib.ReflectliteSwap
import Derived.Laws.CopyOwn
/- Has a region a cell? The mask of some cells: both sides. -/
namespace Go.Proofs.YtglilkneipfheaaGreat
open Go.RowKit
set_option linter.unusedVariables false
attribute [local go_sem ↓] Go.wp_at_zero Go.wp_at_succ

set_option maxHeartbeats 1600000 in
theorem has_i (W : Int) (A : Option Addr) (n c : Nat) (rows : List Int) (x y : Int) (w : World) (hr : Rd w A (vI rows)) (hl : rows.length = n) (hv : isReg W rows = true) (hx : -1000 ≤ x ∧ x ≤ 1000) (hy : -1000 ≤ y ∧ y ≤ 1000) :
    Calls Tryz.prog 155 #[.agg #[.int .i64 W, .slice A n c], .int .i64 x, .int .i64 y] w (Ret w (.bool (hasR W rows (x, y)))) := by
  obtain ⟨m, rfl, hm1, hm6, hn1, hn6, hrow⟩ := isReg_yes hv
  rw [hl] at hn1 hn6
  have HL := Lib.hid hl
  have HR := Lib.hid (hr.alloc (.cells #[.int .i64 (m : Int), .slice A n c] 29))
  have HROW := Lib.hid hrow
  have hdef : hasR (m : Int) rows (x, y) = (((decide (0 ≤ x) && decide (x < m)) && (decide (0 ≤ y) && decide (y < (n : Int)))) && (rows.getD y.toNat 0).toNat.testBit x.toNat) := by unfold hasR; rw [hl]
  have HD := Lib.hid hdef
  clear hl hr hrow hv hdef
  by_cases hxm : 0 ≤ x ∧ x < m
  · by_cases hyn : 0 ≤ y ∧ y < n
    · obtain ⟨p, rfl⟩ := Int.eq_ofNat_of_zero_le hxm.1
      obtain ⟨q, rfl⟩ := Int.eq_ofNat_of_zero_le hyn.1
      have hkl : q < rows.length := by rw [HL.out]; omega
      obtain ⟨t, ht, htl⟩ := HROW.out q hkl
      have hgd : (rows.getD ((q : Int)).toNat 0).toNat = t := by rw [Int.toNat_natCast, List.getD_eq_getElem?_getD, List.getElem?_eq_getElem hkl, Option.getD_some, ht]; rfl
      have HV : Hid (hasR (m : Int) rows ((p : Int), (q : Int)) = t.testBit p) := by
        show _ = _
        rw [HD.out, hgd, Int.toNat_natCast]
        simp only [show (0 : Int) ≤ (p : Int) from by omega, show (0 : Int) ≤ (q : Int) from by omega, show (p : Int) < (m : Int) from by omega, show (q : Int) < (n : Int) from by omega, decide_true, Bool.and_true, Bool.true_and]
      have h26 : t < 2 ^ 62 := Nat.lt_of_lt_of_le htl (Nat.pow_le_pow_right (by decide) (by omega))
      have hbit := bit_testP t p h26
      have ht26 : t < 2 ^ 6 := Nat.lt_of_lt_of_le htl (Nat.pow_le_pow_right (by decide) hm6)
      obtain ⟨d, hd⟩ : ∃ d, t / 2 ^ p = d := ⟨_, rfl⟩
      have hdI : (t : Int) / 2 ^ p = (d : Int) := by rw [← hd]; simp
      rw [hdI] at hbit
      have hp0 : (0 : Int) ≤ (p : Int) := by omega
      have hp64 : (p : Int) ≤ 64 := by omega
      have hq0 : (0 : Int) ≤ (q : Int) := by omega
      have hq1 : (q : Int) < (n : Int) := by omega
      have b1 : true = (decide ((0 : Int) ≤ (p : Int)) && decide ((p : Int) ≤ (m : Int) - 1)) := by simp; omega
      have b2 : true = (decide ((0 : Int) ≤ (q : Int)) && decide ((q : Int) ≤ (n : Int) - 1)) := by simp; omega
      have B1 := Lib.hid b1
      have B2 := Lib.hid b2
      have e1 : IntKind.i64.wrap ((m : Int) - 1) = (m : Int) - 1 := Go.IntWalk.i64_in _ (by omega)
      have e2 : IntKind.i64.wrap ((n : Int) - 1) = (n : Int) - 1 := Go.IntWalk.i64_in _ (by omega)
      have HKL := Lib.hid hkl
      have HTT := Lib.hid ht
      clear ht htl hgd hd hxm hyn b1 b2 h26
      go_enter Tryz.func155, Tryz.ntmps155
      go_wp2_with fail
      refine (between_b (p : Int) 0 ((m : Int) - 1) true _ B1.out).mono ?_
      rintro e w1 ⟨rfl, hb1⟩
      have hB := (Blk.new w 29 #[.int .i64 (m : Int), .slice A n c]).below hb1
      have d0 : w1.cell? ⟨w.heap.size, 0, none⟩ = some (.int .i64 (m : Int)) := by simpa using hB.cell 0
      have d1 : w1.cell? ⟨w.heap.size, 1, none⟩ = some (.slice A n c) := by simpa using hB.cell 1
      have hgw := hB.lt
      go_wp2_with fail
      refine (between_b (q : Int) 0 ((n : Int) - 1) true _ B2.out).mono ?_
      rintro e w2 ⟨rfl, hb2⟩
      have d2 := keep_below hb2 d1
      have hgw2 : w.heap.size < w2.heap.size := Nat.lt_of_lt_of_le hgw hb2.size
      obtain ⟨g, off, hA, hg, c1⟩ := RdI.at_ ((HR.out.below hb1).below hb2) HKL.out
      rw [HTT.out] at c1
      subst hA
      go_wp2_with fail
      go_ret
      exact ⟨by rw [HV.out, ← hbit]; rfl, (by (repeat (first | with_reducible exact Below.refl _ _ | with_reducible assumption | with_reducible apply bel_alloc | with_reducible apply bel_drew | with_reducible apply bel_drewN | ((with_reducible refine bel_set ?_ ?_); rotate_left; (simp <;> omega)) | (with_reducible refine bel_trans ?_ (by with_reducible assumption)))))⟩
    · have HV : Hid (hasR (m : Int) rows (x, y) = false) := by
        show _ = _
        rw [HD.out]
        have : (decide (0 ≤ y) && decide (y < (n : Int))) = false := by
          rw [Bool.eq_false_iff]; intro h; simp only [Bool.and_eq_true, decide_eq_true_eq] at h; exact hyn h
        rw [this, Bool.and_false, Bool.false_and]
      have b1 : true = (decide ((0 : Int) ≤ x) && decide (x ≤ (m : Int) - 1)) := by simp; omega
      have b2 : false = (decide ((0 : Int) ≤ y) && decide (y ≤ (n : Int) - 1)) := by
        symm; rw [Bool.eq_false_iff]; intro h; simp only [Bool.and_eq_true, decide_eq_true_eq] at h; exact hyn ⟨h.1, by omega⟩
      have B1 := Lib.hid b1
      have B2 := Lib.hid b2
      have e1 : IntKind.i64.wrap ((m : Int) - 1) = (m : Int) - 1 := Go.IntWalk.i64_in _ (by omega)
      have e2 : IntKind.i64.wrap ((n : Int) - 1) = (n : Int) - 1 := Go.IntWalk.i64_in _ (by omega)
      clear hxm hyn b1 b2
      go_enter Tryz.func155, Tryz.ntmps155
      go_wp2_with fail
      refine (between_b x 0 ((m : Int) - 1) true _ B1.out).mono ?_
      rintro e w1 ⟨rfl, hb1⟩
      have hB := (Blk.new w 29 #[.int .i64 (m : Int), .slice A n c]).below hb1
      have d0 : w1.cell? ⟨w.heap.size, 0, none⟩ = some (.int .i64 (m : Int)) := by simpa using hB.cell 0
      have d1 : w1.cell? ⟨w.heap.size, 1, none⟩ = some (.slice A n c) := by simpa using hB.cell 1
      have hgw := hB.lt
      go_wp2_with fail
      refine (between_b y 0 ((n : Int) - 1) false _ B2.out).mono ?_
      rintro e w2 ⟨rfl, hb2⟩
      go_wp2_with fail
      go_ret
      exact ⟨by rw [HV.out]; rfl, (by (repeat (first | with_reducible exact Below.refl _ _ | with_reducible assumption | with_reducible apply bel_alloc | with_reducible apply bel_drew | with_reducible apply bel_drewN | ((with_reducible refine bel_set ?_ ?_); rotate_left; (simp <;> omega)) | (with_reducible refine bel_trans ?_ (by with_reducible assumption)))))⟩
  · have HV : Hid (hasR (m : Int) rows (x, y) = false) := by
      show _ = _
      rw [HD.out]
      have : (decide (0 ≤ x) && decide (x < (m : Int))) = false := by
        rw [Bool.eq_false_iff]; intro h; simp only [Bool.and_eq_true, decide_eq_true_eq] at h; exact hxm h
      rw [this, Bool.false_and, Bool.false_and]
    have b1 : false = (decide ((0 : Int) ≤ x) && decide (x ≤ (m : Int) - 1)) := by
      symm; rw [Bool.eq_false_iff]; intro h; simp only [Bool.and_eq_true, decide_eq_true_eq] at h; exact hxm ⟨h.1, by omega⟩
    have B1 := Lib.hid b1
    have e1 : IntKind.i64.wrap ((m : Int) - 1) = (m : Int) - 1 := Go.IntWalk.i64_in _ (by omega)
    clear hxm b1
    go_enter Tryz.func155, Tryz.ntmps155
    go_wp2_with fail
    refine (between_b x 0 ((m : Int) - 1) false _ B1.out).mono ?_
    rintro e w1 ⟨rfl, hb1⟩
    go_wp2_with fail
    go_ret
    exact ⟨by rw [HV.out]; rfl, (by (repeat (first | with_reducible exact Below.refl _ _ | with_reducible assumption | with_reducible apply bel_alloc | with_reducible apply bel_drew | with_reducible apply bel_drewN | ((with_reducible refine bel_set ?_ ?_); rotate_left; (simp <;> omega)) | (with_reducible refine bel_trans ?_ (by with_reducible assumption)))))⟩
set_option maxHeartbeats 1600000 in
theorem l6In_s (W : Int) (A : Option Addr) (n c : Nat) (rows : List Int) (x y : Int) (w : World) (hr : Rd w A (vI rows)) (hl : rows.length = n) (hv : isReg W rows = true) (hx : -1000 ≤ x ∧ x ≤ 1000) (hy : -1000 ≤ y ∧ y ≤ 1000) :
    Calls Tryz.prog 170 #[.agg #[.int .i64 W, .slice A n c], .int .i64 x, .int .i64 y] w (Ret w (.bool (hasR W rows (x, y)))) := by
  obtain ⟨m, rfl, hm1, hm6, hn1, hn6, hrow⟩ := isReg_yes hv
  rw [hl] at hn1 hn6
  have HL := Lib.hid hl
  have HR := Lib.hid (hr.alloc (.cells #[.int .i64 (m : Int), .slice A n c] 29))
  have HROW := Lib.hid hrow
  have hdef : hasR (m : Int) rows (x, y) = (((decide (0 ≤ x) && decide (x < m)) && (decide (0 ≤ y) && decide (y < (n : Int)))) && (rows.getD y.toNat 0).toNat.testBit x.toNat) := by unfold hasR; rw [hl]
  have HD := Lib.hid hdef
  clear hl hr hrow hv hdef
  cases c1 : decide (x ≥ 0) with
  | false =>
    have HV : Hid (hasR (m : Int) rows (x, y) = false) := by show _ = _; rw [HD.out, show decide (0 ≤ x) = false from c1]; rfl
    go_enter Tryz.func170, Tryz.ntmps170
    go_wp2_with fail
    go_ret
    exact ⟨by rw [HV.out]; rfl, (by (repeat (first | with_reducible exact Below.refl _ _ | with_reducible assumption | with_reducible apply bel_alloc | with_reducible apply bel_drew | with_reducible apply bel_drewN | ((with_reducible refine bel_set ?_ ?_); rotate_left; (simp <;> omega)) | (with_reducible refine bel_trans ?_ (by with_reducible assumption)))))⟩
  | true =>
    cases c2 : decide (y ≥ 0) with
    | false =>
      have HV : Hid (hasR (m : Int) rows (x, y) = false) := by show _ = _; rw [HD.out, show decide (0 ≤ y) = false from c2]; simp
      go_enter Tryz.func170, Tryz.ntmps170
      go_wp2_with fail
      go_ret
      exact ⟨by rw [HV.out]; rfl, (by (repeat (first | with_reducible exact Below.refl _ _ | with_reducible assumption | with_reducible apply bel_alloc | with_reducible apply bel_drew | with_reducible apply bel_drewN | ((with_reducible refine bel_set ?_ ?_); rotate_left; (simp <;> omega)) | (with_reducible refine bel_trans ?_ (by with_reducible assumption)))))⟩
    | true =>
      cases c3 : decide (x < (m : Int)) with
      | false =>
        have HV : Hid (hasR (m : Int) rows (x, y) = false) := by show _ = _; rw [HD.out, c3]; simp
        go_enter Tryz.func170, Tryz.ntmps170
        go_wp2_with fail
        go_ret
        exact ⟨by rw [HV.out]; rfl, (by (repeat (first | with_reducible exact Below.refl _ _ | with_reducible assumption | with_reducible apply bel_alloc | with_reducible apply bel_drew | with_reducible apply bel_drewN | ((with_reducible refine bel_set ?_ ?_); rotate_left; (simp <;> omega)) | (with_reducible refine bel_trans ?_ (by with_reducible assumption)))))⟩
      | true =>
        cases c4 : decide (y < (n : Int)) with
        | false =>
          have HV : Hid (hasR (m : Int) rows (x, y) = false) := by show _ = _; rw [HD.out, c4]; simp
          go_enter Tryz.func170, Tryz.ntmps170
          go_wp2_with fail
          go_ret
          exact ⟨by rw [HV.out]; rfl, (by (repeat (first | with_reducible exact Below.refl _ _ | with_reducible assumption | with_reducible apply bel_alloc | with_reducible apply bel_drew | with_reducible apply bel_drewN | ((with_reducible refine bel_set ?_ ?_); rotate_left; (simp <;> omega)) | (with_reducible refine bel_trans ?_ (by with_reducible assumption)))))⟩
        | true =>
          have hx0 := of_decide_eq_true c1
          have hy0 := of_decide_eq_true c2
          have hx1 := of_decide_eq_true c3
          have hy1 := of_decide_eq_true c4
          obtain ⟨p, rfl⟩ := Int.eq_ofNat_of_zero_le hx0
          obtain ⟨q, rfl⟩ := Int.eq_ofNat_of_zero_le hy0
          have hkl : q < rows.length := by rw [HL.out]; omega
          obtain ⟨t, ht, htl⟩ := HROW.out q hkl
          have hgd : (rows.getD ((q : Int)).toNat 0).toNat = t := by rw [Int.toNat_natCast, List.getD_eq_getElem?_getD, List.getElem?_eq_getElem hkl, Option.getD_some, ht]; rfl
          have HV : Hid (hasR (m : Int) rows ((p : Int), (q : Int)) = t.testBit p) := by
            show _ = _
            rw [HD.out, hgd, Int.toNat_natCast, show decide ((0 : Int) ≤ (p : Int)) = true from c1, show decide ((0 : Int) ≤ (q : Int)) = true from c2, c3, c4]
            simp
          have h26 : t < 2 ^ 62 := Nat.lt_of_lt_of_le htl (Nat.pow_le_pow_right (by decide) (by omega))
          have hbit := bit_testP t p h26
          have ht26 : t < 2 ^ 6 := Nat.lt_of_lt_of_le htl (Nat.pow_le_pow_right (by decide) hm6)
          obtain ⟨d, hd⟩ : ∃ d, t / 2 ^ p = d := ⟨_, rfl⟩
          have hdI : (t : Int) / 2 ^ p = (d : Int) := by rw [← hd]; simp
          rw [hdI] at hbit
          have hp64 : (p : Int) ≤ 64 := by omega
          have HRR := HR.out
          obtain ⟨g, off, hA, hg, c9⟩ := RdI.at_ HRR hkl
          rw [ht] at c9
          subst hA
          clear ht htl hgd hd h26 HRR
          go_enter Tryz.func170, Tryz.ntmps170
          go_wp2_with fail
          go_ret
          exact ⟨by rw [HV.out, ← hbit]; rfl, (by (repeat (first | with_reducible exact Below.refl _ _ | with_reducible assumption | with_reducible apply bel_alloc | with_reducible apply bel_drew | with_reducible apply bel_drewN | ((with_reducible refine bel_set ?_ ?_); rotate_left; (simp <;> omega)) | (with_reducible refine bel_trans ?_ (by with_reducible assumption)))))⟩
theorem InRegion_s (W : Int) (A : Option Addr) (n c : Nat) (rows : List Int) (x y : Int) (w : World) (hr : Rd w A (vI rows)) (hl : rows.length = n) (hx : -1000 ≤ x ∧ x ≤ 1000) (hy : -1000 ≤ y ∧ y ≤ 1000) :
    Calls Tryz.prog 158 #[.agg #[.int .i64 W, .slice A n c], .int .i64 x, .int .i64 y] w (Ret w (.bool (isReg W rows && hasR W rows (x, y)))) := by
  have HL := Lib.hid hl
  have HR := Lib.hid (hr.alloc (.cells #[.int .i64 W, .slice A n c] 29))
  have HX := Lib.hid hx
  have HY := Lib.hid hy
  clear hl hr hx hy
  cases hv : isReg W rows with
  | false =>
    have HV := Lib.hid hv
    clear hv
    go_enter Tryz.func158, Tryz.ntmps158
    go_wp2_with fail
    refine (IsRegion_s _ _ _ _ rows _ HR.out HL.out).mono ?_
    rw [HV.out]
    rintro e w1 ⟨rfl, hb1⟩
    go_wp2_with fail
    go_ret
    exact ⟨rfl, (by (repeat (first | with_reducible exact Below.refl _ _ | with_reducible assumption | with_reducible apply bel_alloc | with_reducible apply bel_drew | with_reducible apply bel_drewN | ((with_reducible refine bel_set ?_ ?_); rotate_left; (simp <;> omega)) | (with_reducible refine bel_trans ?_ (by with_reducible assumption)))))⟩
  | true =>
    have HV := Lib.hid hv
    clear hv
    go_enter Tryz.func158, Tryz.ntmps158
    go_wp2_with fail
    refine (IsRegion_s _ _ _ _ rows _ HR.out HL.out).mono ?_
    rw [HV.out]
    rintro e w1 ⟨rfl, hb1⟩
    have hB := (Blk.new w 29 #[.int .i64 W, .slice A n c]).below hb1
    have d0 : w1.cell? ⟨w.heap.size, 0, none⟩ = some (.int .i64 W) := by simpa using hB.cell 0
    have d1 : w1.cell? ⟨w.heap.size, 1, none⟩ = some (.slice A n c) := by simpa using hB.cell 1
    have hgw := hB.lt
    go_wp2_with fail
    refine (l6In_s _ _ _ _ rows x y _ (HR.out.below hb1) HL.out HV.out HX.out HY.out).mono ?_
    rintro e w2 ⟨rfl, hb2⟩
    go_wp2_with fail
    go_ret
    exact ⟨by simp, (by (repeat (first | with_reducible exact Below.refl _ _ | with_reducible assumption | with_reducible apply bel_alloc | with_reducible apply bel_drew | with_reducible apply bel_drewN | ((with_reducible refine bel_set ?_ ?_); rotate_left; (simp <;> omega)) | (with_reducible refine bel_trans ?_ (by with_reducible assumption)))))⟩
theorem mc_num {m n : Nat} {rows : List Int} {x y : Int} (h36 : m * rows.length ≤ 36) (h : hasR (m : Int) rows (x, y) = true) :
    ∃ p q s j : Nat, x = (p : Int) ∧ y = (q : Int) ∧ p < m ∧ (q : Int) * (m : Int) = (s : Int) ∧ (s : Int) + (p : Int) = (j : Int) ∧ posM m (x, y) = j ∧ j < 36 ∧ j < m * rows.length ∧ s ≤ 36 := by
  obtain ⟨p, q, e, h1, h2, h3, h4⟩ := hasR_pos h
  injection e with e1 e2
  exact ⟨p, q, q * m, q * m + p, e1, e2, h1, by simp, by simp, h3, by omega, h4, by omega⟩
set_option maxRecDepth 100000 in
set_option maxHeartbeats 3200000 in
theorem MaskOfCells_i (W : Int) (A B : Option Addr) (n c k cb : Nat) (rows : List Int) (cs : List C) (w : World) (hr : Rd w A (vI rows)) (hl : rows.length = n) (hv : isReg W rows = true) (hrc : Rd w B (vC cs)) (hlc : cs.length = k) (hk : k ≤ 1048576) (hs : ∀ d ∈ cs, small d) :
    Calls Tryz.prog 124 #[.agg #[.int .i64 W, .slice A n c], .slice B k cb] w (Ret w (mcR (mcV W rows cs 0))) := by
  have hv0 := hv
  obtain ⟨m, rfl, hm1, hm6, hn1, hn6, hrow⟩ := isReg_yes hv
  have h36 : m * rows.length ≤ 6 * 6 := Nat.mul_le_mul hm6 hn6
  have HL := Lib.hid hl
  have HV := Lib.hid hv0
  have HR := Lib.hid (hr.alloc (.cells #[.int .i64 (m : Int), .slice A n c] 29))
  have HRC := Lib.hid (hrc.alloc (.cells #[.int .i64 (m : Int), .slice A n c] 29))
  have HLC := Lib.hid hlc
  have HS := Lib.hid hs
  have H36 : Hid (m * rows.length ≤ 36) := h36
  have hmt : ((m : Int)).toNat = m := Int.toNat_natCast _
  have HMT := Lib.hid hmt
  clear hl hr hrow hv hv0 hrc hlc hs h36 hn1 hn6 hmt
  go_enter Tryz.func124, Tryz.ntmps124
  go_wp2_with fail
  refine (IsRegion_i _ _ _ _ rows _ HR.out HL.out).mono ?_
  rw [HV.out]
  rintro e w1 ⟨rfl, hb1⟩
  have HB1 := Lib.hid ((Blk.new w 29 #[.int .i64 (m : Int), .slice A n c]).below hb1)
  have HR1 := Lib.hid (HR.out.below hb1)
  have HRC1 := Lib.hid (HRC.out.below hb1)
  have hbw1 : Below w.heap.size w w1 := bel_trans (bel_alloc (Below.refl _ _) _) hb1
  clear hb1
  go_wp2_with fail
  go_loopw [14, 6] (fun e14 e6 wr => ∃ (i v : Nat), i ≤ k ∧ e14 = .int .i64 i ∧ e6 = .int .i64 (v : Int) ∧ v < 2 ^ (m * rows.length) ∧ mcV (m : Int) rows cs 0 = mcV (m : Int) rows (cs.drop i) v ∧ Below w1.heap.size w1 wr) (fun e14 _ _ => k - (intOf e14).toNat)
  case atStart => exact ⟨0, 0, Nat.zero_le _, rfl, rfl, Nat.pow_pos (by decide), rfl, Below.refl _ _⟩
  case round =>
    obtain ⟨i, v, hi, rfl, rfl, hvl, hmc, hb⟩ := hrel
    have hv36 : v < 2 ^ 36 := Nat.lt_of_lt_of_le hvl (Nat.pow_le_pow_right (by decide) H36.out)
    by_cases hlt : i < k
    · have hkl : i < cs.length := by rw [HLC.out]; exact hlt
      have hi0 : (0 : Int) ≤ (i : Int) := by omega
      have hi1 : (i : Int) < (k : Int) := by omega
      obtain ⟨g, off, hA, hg, d1, d2⟩ := RdC.at_ (HRC1.out.below hb) hkl
      have hsm := HS.out _ (List.getElem_mem hkl)
      rw [List.drop_eq_getElem_cons hkl] at hmc
      obtain ⟨x, hx⟩ : ∃ x, cs[i].1 = x := ⟨_, rfl⟩
      obtain ⟨y, hy⟩ : ∃ y, cs[i].2 = y := ⟨_, rfl⟩
      rw [show cs[i] = (x, y) from Prod.ext hx hy] at hmc hsm
      rw [hx] at d1
      rw [hy] at d2
      unfold small at hsm
      simp only at hsm
      have hNO : (hasR (m : Int) rows (x, y) && !v.testBit (posM m (x, y))) = false → mcV (m : Int) rows cs 0 = none := fun h => by rw [hmc]; exact mcV_no (by rw [HMT.out]; exact h)
      have hYES : (hasR (m : Int) rows (x, y) && !v.testBit (posM m (x, y))) = true → mcV (m : Int) rows cs 0 = mcV (m : Int) rows (cs.drop (i + 1)) (v + 2 ^ posM m (x, y)) := fun h => by rw [hmc, mcV_yes (by rw [HMT.out]; exact h), HMT.out]
      have HNO := Lib.hid hNO
      have HYES := Lib.hid hYES
      have HSX := Lib.hid hsm.1
      have HSY := Lib.hid hsm.2
      have hB := HB1.out.below hb
      have b0 : wr.cell? ⟨w.heap.size, 0, none⟩ = some (.int .i64 (m : Int)) := by simpa using hB.cell 0
      have b1 : wr.cell? ⟨w.heap.size, 1, none⟩ = some (.slice A n c) := by simpa using hB.cell 1
      have hgw := hB.lt
      have HVL := Lib.hid hvl
      subst hA
      clear hmc hx hy hsm hB hNO hYES hvl
      cases hh : hasR (m : Int) rows (x, y) with
      | false =>
        have HH := Lib.hid hh
        have HN := Lib.hid (HNO.out (by rw [hh]; rfl))
        clear hh HNO HYES
        go_wp2_with fail
        refine (has_i (m : Int) A n c rows x y _ ((HR1.out.below hb).alloc _) HL.out HV.out HSX.out HSY.out).mono ?_
        rw [HH.out]
        rintro e w2 ⟨rfl, hb2⟩
        go_wp2_with fail
        go_ret2
        exact ⟨by rw [HN.out]; rfl, bel_trans hbw1 (bel_trans hb (bel_trans (bel_alloc (Below.refl _ _) _) hb2))⟩
      | true =>
        have HH := Lib.hid hh
        obtain ⟨p, q, s, j, rfl, rfl, hpm, hs, hj, hpos, hj36, hjl, hs36⟩ := mc_num H36.out hh (n := n)
        have hj0 : (0 : Int) ≤ (j : Int) := by omega
        have hj64 : (j : Int) ≤ 64 := by omega
        have hv62 : v < 2 ^ 62 := by omega
        have hbit := bit_testP v j hv62
        obtain ⟨d, hd⟩ : ∃ d, v / 2 ^ j = d := ⟨_, rfl⟩
        have hdI : (v : Int) / 2 ^ j = (d : Int) := by rw [← hd]; simp
        rw [hdI] at hbit
        have es : IntKind.i64.wrap (s : Int) = (s : Int) := Go.IntWalk.i64_in _ (by omega)
        have ej : IntKind.i64.wrap (j : Int) = (j : Int) := Go.IntWalk.i64_in _ (by omega)
        have h2j : (2 : Nat) ^ j < 2 ^ 36 := Nat.pow_lt_pow_right (by decide) hj36
        obtain ⟨t, ht⟩ : ∃ t : Nat, 2 ^ j = t := ⟨_, rfl⟩
        have htI : (2 : Int) ^ j = (t : Int) := by rw [← ht]; simp
        have hdT : (v : Int) / (t : Int) = (d : Int) := by rw [← htI]; exact hdI
        clear hdI
        rw [hpos] at HNO HYES
        rw [ht] at HYES
        have hTT : v.testBit j = false → v ||| t = v + t ∧ v + t < 2 ^ (m * rows.length) := fun h => by
          have h1 := or_bit hv62 (by omega) h
          rw [ht] at h1
          refine ⟨h1, ?_⟩
          rw [← h1, ← ht]
          exact Nat.or_lt_two_pow HVL.out (Nat.pow_lt_pow_right (by decide) hjl)
        have HTT := Lib.hid hTT
        rw [ht] at h2j
        clear hh hpos hd ht hTT
        cases hb2 : v.testBit j with
        | true =>
          have HN := Lib.hid (HNO.out (by rw [HH.out, hb2]; rfl))
          rw [hb2] at hbit
          clear hb2 HNO HYES HTT
          go_wp2_with fail
          refine (has_i (m : Int) A n c rows (p : Int) (q : Int) _ ((HR1.out.below hb).alloc _) HL.out HV.out HSX.out HSY.out).mono ?_
          rw [HH.out]
          rintro e w2 ⟨rfl, hb2⟩
          have hDK := (Blk.new wr 94 #[.int .i64 (p : Int), .int .i64 (q : Int)]).below hb2
          have c0 : w2.cell? ⟨wr.heap.size, 0, none⟩ = some (.int .i64 (p : Int)) := by simpa using hDK.cell 0
          have c1 : w2.cell? ⟨wr.heap.size, 1, none⟩ = some (.int .i64 (q : Int)) := by simpa using hDK.cell 1
          have cl := hDK.lt
          have y0 := keep_below hb2 (keep_alloc (o := .cells #[.int .i64 (p : Int), .int .i64 (q : Int)] 94) b0)
          have yl : w.heap.size < w2.heap.size := by omega
          clear hDK d1 d2 b0 b1
          go_wp2_with fail
          go_ret2
          exact ⟨by rw [HN.out]; rfl, bel_trans hbw1 (bel_trans hb (bel_trans (bel_alloc (Below.refl _ _) _) hb2))⟩
        | false =>
          have HN := Lib.hid (HYES.out (by rw [HH.out, hb2]; rfl))
          rw [hb2] at hbit
          obtain ⟨h1, h2⟩ := HTT.out hb2
          have hor : bits .or .i64 (v : Int) (t : Int) = ((v + t : Nat) : Int) := by rw [i64_or v t (by omega) (by omega), h1]
          have H2 := Lib.hid h2
          have HOR := Lib.hid hor
          clear hb2 HNO HYES HTT h1 h2 hor
          go_wp2_with fail
          refine (has_i (m : Int) A n c rows (p : Int) (q : Int) _ ((HR1.out.below hb).alloc _) HL.out HV.out HSX.out HSY.out).mono ?_
          rw [HH.out]
          rintro e w2 ⟨rfl, hb2⟩
          have hDK := (Blk.new wr 94 #[.int .i64 (p : Int), .int .i64 (q : Int)]).below hb2
          have c0 : w2.cell? ⟨wr.heap.size, 0, none⟩ = some (.int .i64 (p : Int)) := by simpa using hDK.cell 0
          have c1 : w2.cell? ⟨wr.heap.size, 1, none⟩ = some (.int .i64 (q : Int)) := by simpa using hDK.cell 1
          have cl := hDK.lt
          have y0 := keep_below hb2 (keep_alloc (o := .cells #[.int .i64 (p : Int), .int .i64 (q : Int)] 94) b0)
          have yl : w.heap.size < w2.heap.size := by omega
          have hor := HOR.out
          clear hDK d1 d2 b0 b1
          go_wp2_with fail
          exact ⟨⟨i + 1, v + t, by omega, by go_num, rfl, H2.out, HN.out, bel_trans hb (bel_trans (bel_alloc (Below.refl _ _) _) hb2)⟩, by simp [intOf]; omega⟩
    · obtain rfl : i = k := by omega
      rw [List.drop_of_length_le (by rw [HLC.out]; omega)] at hmc
      have HN := Lib.hid hmc
      have hi1 : ¬ (i : Int) < (i : Int) := by omega
      clear hmc hvl
      go_wp2_with fail
      go_ret2
      exact ⟨by rw [HN.out]; rfl, bel_trans hbw1 hb⟩
set_option maxRecDepth 100000 in
set_option maxHeartbeats 3200000 in
theorem MaskOfCells_s (W : Int) (A B : Option Addr) (n c k cb : Nat) (rows : List Int) (cs : List C) (w : World) (hr : Rd w A (vI rows)) (hl : rows.length = n) (hv : isReg W rows = true) (hrc : Rd w B (vC cs)) (hlc : cs.length = k) (hk : k ≤ 1048576) (hs : ∀ d ∈ cs, small d) :
    Calls Tryz.prog 129 #[.agg #[.int .i64 W, .slice A n c], .slice B k cb] w (Ret w (mcR (mcV W rows cs 0))) := by
  have hv0 := hv
  obtain ⟨m, rfl, hm1, hm6, hn1, hn6, hrow⟩ := isReg_yes hv
  have h36 : m * rows.length ≤ 6 * 6 := Nat.mul_le_mul hm6 hn6
  have HL := Lib.hid hl
  have HV := Lib.hid hv0
  have HR := Lib.hid (hr.alloc (.cells #[.int .i64 (m : Int), .slice A n c] 29))
  have HRC := Lib.hid (hrc.alloc (.cells #[.int .i64 (m : Int), .slice A n c] 29))
  have HLC := Lib.hid hlc
  have HS := Lib.hid hs
  have H36 : Hid (m * rows.length ≤ 36) := h36
  have hmt : ((m : Int)).toNat = m := Int.toNat_natCast _
  have HMT := Lib.hid hmt
  have HB1 := Lib.hid (Blk.new w 29 #[.int .i64 (m : Int), .slice A n c])
  have hbw1 : Below w.heap.size w (w.alloc (.cells #[.int .i64 (m : Int), .slice A n c] 29)) := bel_alloc (Below.refl _ _) _
  clear hl hr hrow hv hv0 hrc hlc hs h36 hn1 hn6 hmt
  go_enter Tryz.func129, Tryz.ntmps129
  go_wp2_with fail
  obtain ⟨w1, hw1⟩ : ∃ w1, w.alloc (.cells #[.int .i64 (m : Int), .slice A n c] 29) = w1 := ⟨_, rfl⟩
  rw [hw1] at HR HRC HB1 hbw1 ⊢
  clear hw1
  go_loopw [7, 6] (fun e14 e6 wr => ∃ (i v : Nat), i ≤ k ∧ e14 = .int .i64 i ∧ e6 = .int .i64 (v : Int) ∧ v < 2 ^ (m * rows.length) ∧ mcV (m : Int) rows cs 0 = mcV (m : Int) rows (cs.drop i) v ∧ Below w1.heap.size w1 wr) (fun e14 _ _ => k - (intOf e14).toNat)
  case atStart => exact ⟨0, 0, Nat.zero_le _, rfl, rfl, Nat.pow_pos (by decide), rfl, Below.refl _ _⟩
  case round =>
    obtain ⟨i, v, hi, rfl, rfl, hvl, hmc, hb⟩ := hrel
    have hv36 : v < 2 ^ 36 := Nat.lt_of_lt_of_le hvl (Nat.pow_le_pow_right (by decide) H36.out)
    have hB := HB1.out.below hb
    have b0 : wr.cell? ⟨w.heap.size, 0, none⟩ = some (.int .i64 (m : Int)) := by simpa using hB.cell 0
    have b1 : wr.cell? ⟨w.heap.size, 1, none⟩ = some (.slice A n c) := by simpa using hB.cell 1
    have hgw := hB.lt
    clear hB
    by_cases hlt : i < k
    · have hkl : i < cs.length := by rw [HLC.out]; exact hlt
      have hi0 : (0 : Int) ≤ (i : Int) := by omega
      have hi1 : (i : Int) < (k : Int) := by omega
      obtain ⟨g, off, hA, hg, d1, d2⟩ := RdC.at_ (HRC.out.below hb) hkl
      have hsm := HS.out _ (List.getElem_mem hkl)
      rw [List.drop_eq_getElem_cons hkl] at hmc
      obtain ⟨x, hx⟩ : ∃ x, cs[i].1 = x := ⟨_, rfl⟩
      obtain ⟨y, hy⟩ : ∃ y, cs[i].2 = y := ⟨_, rfl⟩
      rw [show cs[i] = (x, y) from Prod.ext hx hy] at hmc hsm
      rw [hx] at d1
      rw [hy] at d2
      unfold small at hsm
      simp only at hsm
      have hNO : (hasR (m : Int) rows (x, y) && !v.testBit (posM m (x, y))) = false → mcV (m : Int) rows cs 0 = none := fun h => by rw [hmc]; exact mcV_no (by rw [HMT.out]; exact h)
      have hYES : (hasR (m : Int) rows (x, y) && !v.testBit (posM m (x, y))) = true → mcV (m : Int) rows cs 0 = mcV (m : Int) rows (cs.drop (i + 1)) (v + 2 ^ posM m (x, y)) := fun h => by rw [hmc, mcV_yes (by rw [HMT.out]; exact h), HMT.out]
      have HNO := Lib.hid hNO
      have HYES := Lib.hid hYES
      have HSX := Lib.hid hsm.1
      have HSY := Lib.hid hsm.2
      have HVL := Lib.hid hvl
      subst hA
      clear hmc hx hy hsm hNO hYES hvl
      cases hh : hasR (m : Int) rows (x, y) with
      | false =>
        have HIR : Hid (∀ w0, Below wr.heap.size wr w0 → Calls Tryz.prog 158 #[.agg #[.int .i64 (m : Int), .slice A n c], .int .i64 x, .int .i64 y] w0 (Ret w0 (.bool false))) := fun w0 h => by
          have h2 := InRegion_s (m : Int) A n c rows x y w0 ((HR.out.below hb).below h) HL.out HSX.out HSY.out
          rw [HV.out, hh] at h2
          exact h2
        have HN := Lib.hid (HNO.out (by rw [hh]; rfl))
        clear hh HNO HYES
        go_wp2_with fail
        (refine wp_region_below (by kernel_rfl) (by kernel_rfl) ?_; (repeat (first | go_big_quiet_skip | (refine quietV (v := ?_) (by rfl) rfl (fun w' hbw => ?_) ?_; rotate_left; ((try dsimp only at hbw); have hbc := (bcell hbw).1; have hbf := (bcell hbw).2; go_simp; first | done | with_reducible rfl | (with_reducible exact callsB (v := .bool false) (HIR.out _ hbw) hbw)); simp only [List.setIfInBounds_toArray, List.set_cons_zero, List.set_cons_succ]))); refine wpQuiet_nil ?_; intro wq hbq)
        go_wp2_with fail
        go_ret2
        exact ⟨by rw [HN.out]; rfl, bel_trans hbw1 (bel_trans hb hbq)⟩
      | true =>
        have HH := Lib.hid hh
        obtain ⟨p, q, s, j, rfl, rfl, hpm, hs, hj, hpos, hj36, hjl, hs36⟩ := mc_num H36.out hh (n := n)
        have HIR : Hid (∀ w0, Below wr.heap.size wr w0 → Calls Tryz.prog 158 #[.agg #[.int .i64 (m : Int), .slice A n c], .int .i64 (p : Int), .int .i64 (q : Int)] w0 (Ret w0 (.bool true))) := fun w0 h => by
          have h2 := InRegion_s (m : Int) A n c rows (p : Int) (q : Int) w0 ((HR.out.below hb).below h) HL.out HSX.out HSY.out
          rw [HV.out, hh] at h2
          exact h2
        have hj0 : (0 : Int) ≤ (j : Int) := by omega
        have hj64 : (j : Int) ≤ 64 := by omega
        have hv62 : v < 2 ^ 62 := by omega
        have hbit := bit_testP v j hv62
        obtain ⟨d, hd⟩ : ∃ d, v / 2 ^ j = d := ⟨_, rfl⟩
        have hdI : (v : Int) / 2 ^ j = (d : Int) := by rw [← hd]; simp
        rw [hdI] at hbit
        have es : IntKind.i64.wrap (s : Int) = (s : Int) := Go.IntWalk.i64_in _ (by omega)
        have ej : IntKind.i64.wrap (j : Int) = (j : Int) := Go.IntWalk.i64_in _ (by omega)
        have h2j : (2 : Nat) ^ j < 2 ^ 36 := Nat.pow_lt_pow_right (by decide) hj36
        obtain ⟨t, ht⟩ : ∃ t : Nat, 2 ^ j = t := ⟨_, rfl⟩
        have htI : (2 : Int) ^ j = (t : Int) := by rw [← ht]; simp
        have hdT : (v : Int) / (t : Int) = (d : Int) := by rw [← htI]; exact hdI
        rw [hpos] at HNO HYES
        rw [ht] at HYES
        have hTT : v.testBit j = false → v + t < 2 ^ (m * rows.length) := fun h => by
          have h1 := or_bit hv62 (by omega) h
          rw [ht] at h1
          rw [← h1, ← ht]
          exact Nat.or_lt_two_pow HVL.out (Nat.pow_lt_pow_right (by decide) hjl)
        have HTT := Lib.hid hTT
        rw [ht] at h2j
        have et : IntKind.i64.wrap (t : Int) = (t : Int) := Go.IntWalk.i64_in _ (by omega)
        obtain ⟨u, hu⟩ : ∃ u, u = v + t := ⟨_, rfl⟩
        have huI : (v : Int) + (t : Int) = (u : Int) := by omega
        have eu : IntKind.i64.wrap (u : Int) = (u : Int) := Go.IntWalk.i64_in _ (by omega)
        rw [← hu] at HTT HYES
        clear hh hpos hd ht hTT hu hdI
        cases hb2 : v.testBit j with
        | true =>
          have HN := Lib.hid (HNO.out (by rw [HH.out, hb2]; rfl))
          rw [hb2] at hbit
          clear hb2 HNO HYES HTT
          go_wp2_with fail
          (refine wp_region_below (by kernel_rfl) (by kernel_rfl) ?_; (repeat (first | go_big_quiet_skip | (refine quietV (v := ?_) (by rfl) rfl (fun w' hbw => ?_) ?_; rotate_left; ((try dsimp only at hbw); have hbc := (bcell hbw).1; have hbf := (bcell hbw).2; go_simp; first | done | with_reducible rfl | (with_reducible exact callsB (v := .bool true) (HIR.out _ hbw) hbw)); simp only [List.setIfInBounds_toArray, List.set_cons_zero, List.set_cons_succ]))); refine wpQuiet_nil ?_; intro wq hbq)
          go_wp2_with fail
          go_ret2
          exact ⟨by rw [HN.out]; rfl, bel_trans hbw1 (bel_trans hb hbq)⟩
        | false =>
          have HN := Lib.hid (HYES.out (by rw [HH.out, hb2]; rfl))
          rw [hb2] at hbit
          have H2 := Lib.hid (HTT.out hb2)
          clear hb2 HNO HYES HTT
          go_wp2_with fail
          (refine wp_region_below (by kernel_rfl) (by kernel_rfl) ?_; (repeat (first | go_big_quiet_skip | (refine quietV (v := ?_) (by rfl) rfl (fun w' hbw => ?_) ?_; rotate_left; ((try dsimp only at hbw); have hbc := (bcell hbw).1; have hbf := (bcell hbw).2; go_simp; first | done | with_reducible rfl | (with_reducible exact callsB (v := .bool true) (HIR.out _ hbw) hbw)); simp only [List.setIfInBounds_toArray, List.set_cons_zero, List.set_cons_succ]))); refine wpQuiet_nil ?_; intro wq hbq)
          have b0' := keep_below hbq b0
          have d1' := keep_below hbq d1
          have d2' := keep_below hbq d2
          have hgw' : w.heap.size < wq.heap.size := Nat.lt_of_lt_of_le hgw hbq.size
          have hg' : g < wq.heap.size := Nat.lt_of_lt_of_le hg hbq.size
          clear b0 b1 d1 d2 HIR
          go_wp2_with fail
          (refine wp_region_below (by kernel_rfl) (by kernel_rfl) ?_; (repeat (first | go_big_quiet_skip | (refine quietV (v := ?_) (by rfl) rfl (fun w' hbw => ?_) ?_; rotate_left; ((try dsimp only at hbw); have hbc := (bcell hbw).1; have hbf := (bcell hbw).2; go_simp; first | done | with_reducible rfl | fail); simp only [List.setIfInBounds_toArray, List.set_cons_zero, List.set_cons_succ]))); refine wpQuiet_nil ?_; intro wz hbz)
          go_wp2_with fail
          exact ⟨⟨i + 1, u, by omega, by go_num, by first | rfl | (simp <;> omega), H2.out, HN.out, bel_trans hb (bel_trans hbq hbz)⟩, by simp [intOf]; omega⟩
    · obtain rfl : i = k := by omega
      rw [List.drop_of_length_le (by rw [HLC.out]; omega)] at hmc
      have HN := Lib.hid hmc
      have hi1 : ¬ (i : Int) < (i : Int) := by omega
      clear hmc hvl
      go_wp2_with fail
      refine (IsRegion_s _ _ _ _ rows _ (HR.out.below hb) HL.out).mono ?_
      rw [HV.out]
      rintro e w2 ⟨rfl, hb2⟩
      go_wp2_with fail
      go_ret2
      exact ⟨by rw [HN.out]; rfl, bel_trans hbw1 (bel_trans hb hb2)⟩
end Go.Proofs.YtglilkneipfheaaGreat

/- Insertion sort by exchanges of neighbours, on lists. No program is in sight. -/
namespace Go.Proofs.YtglilkneipfheaaGreat
open Go.RowKit
set_option linter.unusedVariables false
section
variable {α : Type} [Inhabited α] {lt : α → α → Bool}
/-- The elements at i and j exchanged. -/
def swL (l : List α) (i j : Nat) : List α := (l.set i (l.getD j default)).set j (l.getD i default)
theorem swL_len (l : List α) (i j : Nat) : (swL l i j).length = l.length := by simp [swL]
theorem getD_in (l : List α) {i : Nat} (h : i < l.length) : l.getD i default = l[i] := by rw [List.getD_eq_getElem?_getD, List.getElem?_eq_getElem h]; rfl
theorem swL_get (l : List α) {i j : Nat} (hi : i < l.length) (hj : j < l.length) (k : Nat) : (swL l i j).getD k default = if k = j then l.getD i default else if k = i then l.getD j default else l.getD k default := by
  unfold swL
  simp only [List.getD_eq_getElem?_getD, List.getElem?_set, List.length_set]
  by_cases h1 : j = k
  · subst h1
    simp [hj]
  · simp only [if_neg h1]
    rw [if_neg (Ne.symm h1)]
    by_cases h2 : i = k
    · subst h2
      simp [hi]
    · simp only [if_neg h2]
      rw [if_neg (Ne.symm h2)]
theorem swL_mem (l : List α) {i j : Nat} (hi : i < l.length) (hj : j < l.length) (x : α) : x ∈ swL l i j ↔ x ∈ l := by
  have key : ∀ (l : List α) (i j : Nat), i < l.length → j < l.length → x ∈ swL l i j → x ∈ l := by
    intro l i j hi hj h
    obtain ⟨k, hk, rfl⟩ := List.mem_iff_getElem.1 h
    rw [← getD_in _ hk, swL_get l hi hj]
    split
    · exact getD_mem hi
    · split
      · exact getD_mem hj
      · exact getD_mem (by rw [swL_len] at hk; exact hk)
  refine ⟨key l i j hi hj, fun h => ?_⟩
  obtain ⟨k, hk, rfl⟩ := List.mem_iff_getElem.1 h
  rw [← getD_in _ hk]
  have hm : ∀ q, q < l.length → (swL l i j).getD q default ∈ swL l i j := fun q hq => getD_mem (by rw [swL_len]; exact hq)
  by_cases h1 : k = i
  · subst h1
    have := hm j hj
    rwa [swL_get l hi hj, if_pos rfl] at this
  · by_cases h2 : k = j
    · subst h2
      have := hm i hi
      rw [swL_get l hi hj] at this
      by_cases h3 : i = k
      · exact absurd h3.symm h1
      · rwa [if_neg h3, if_pos rfl] at this
    · have := hm k hk
      rwa [swL_get l hi hj, if_neg h2, if_neg h1] at this
/-- The first i + 1 elements are in order but for the one at j, that may be less than some ahead of it. -/
def NearO (lt : α → α → Bool) (l : List α) (i j : Nat) : Prop := ∀ a b, a < b → b ≤ i → b ≠ j → lt (l.getD b default) (l.getD a default) = false
def OrdTo (lt : α → α → Bool) (l : List α) (i : Nat) : Prop := ∀ a b, a < b → b < i → lt (l.getD b default) (l.getD a default) = false
theorem OrdTo.start (l : List α) : OrdTo lt l 1 := fun a b h1 h2 => by omega
theorem OrdTo.near {l : List α} {i : Nat} (h : OrdTo lt l i) : NearO lt l i i := fun a b h1 h2 h3 => h a b h1 (by omega)
theorem NearO.zero {l : List α} {i : Nat} (h : NearO lt l i 0) : OrdTo lt l (i + 1) := fun a b h1 h2 => h a b h1 (by omega) (by omega)
theorem NearO.stop (hO : STO lt) {l : List α} {i j : Nat} (h : NearO lt l i (j + 1)) (hji : j + 1 ≤ i) (hl : lt (l.getD (j + 1) default) (l.getD j default) = false) : OrdTo lt l (i + 1) := by
  intro a b h1 h2
  by_cases hb : b = j + 1
  · subst hb
    by_cases ha : a = j
    · subst ha; exact hl
    · have h3 := h a j (by omega) (by omega) (by omega)
      cases hc : lt (l.getD (j + 1) default) (l.getD a default) with
      | false => rfl
      | true =>
        exfalso
        cases hd : lt (l.getD a default) (l.getD j default) with
        | true => rw [hO.trans hc hd] at hl; cases hl
        | false => rw [hO.tot hd h3] at hc; rw [hc] at hl; cases hl
  · exact h a b h1 (by omega) hb
theorem NearO.step (hO : STO lt) {l : List α} {i j : Nat} (h : NearO lt l i (j + 1)) (hji : j + 1 ≤ i) (hil : i < l.length) (hl : lt (l.getD (j + 1) default) (l.getD j default) = true) : NearO lt (swL l (j + 1) j) i j := by
  have hj1 : j + 1 < l.length := by omega
  have hj : j < l.length := by omega
  intro a b h1 h2 h3
  rw [swL_get l hj1 hj, swL_get l hj1 hj, if_neg h3]
  by_cases hb : b = j + 1
  · rw [if_pos hb]
    by_cases ha : a = j
    · rw [if_pos ha]; exact hO.asym hl
    · rw [if_neg ha, if_neg (by omega)]
      exact h a j (by omega) (by omega) (by omega)
  · rw [if_neg hb]
    by_cases ha : a = j
    · rw [if_pos ha]
      exact h (j + 1) b (by omega) h2 hb
    · rw [if_neg ha]
      by_cases ha2 : a = j + 1
      · rw [if_pos ha2]
        exact h j b (by omega) h2 hb
      · rw [if_neg ha2]
        exact h a b h1 h2 hb
theorem OrdTo.done {l : List α} (h : OrdTo lt l l.length) : l.Pairwise (fun a b => lt b a = false) := by
  rw [List.pairwise_iff_getElem]
  intro i j hi hj hij
  have := h i j hij hj
  rwa [getD_in l hj, getD_in l hi] at this
end
end Go.Proofs.YtglilkneipfheaaGreat

/- Cells put in order: the library's sort at twelve cells or fewer, with the program's own test. -/
namespace Go.Proofs.YtglilkneipfheaaGreat
open Go.RowKit Go.Shelf
set_option linter.unusedVariables false
attribute [local go_sem ↓] Go.wp_at_zero Go.wp_at_succ

theorem sto_default (l : List C) {i : Nat} (h : i < l.length) : l.getD i default = l[i] := getD_in l h
set_option maxHeartbeats 800000 in
/-- The test: does cell i come before cell j? -/
theorem lessCells (Bs base g n c : Nat) (l : List C) (i j : Nat) (w : World) (ho : w.ownsRow base 94 2 (.slice (some ⟨g, 0, none⟩) n c) n (vC l)) (hB : w.cell? ⟨Bs, 0, none⟩ = some (.slice (some ⟨g, 0, none⟩) n c)) (hi : i < n) (hj : j < n) (b : Bool)
    (hb : b = befC (l.getD i default) (l.getD j default)) : Calls Tryz.prog 165 #[.int .i64 (i : Int), .int .i64 (j : Int), .pointer (some ⟨Bs, 0, none⟩)] w (Ret w (.bool b)) := by
  have hl : l.length = n := by have := own_len ho; rw [vC_length] at this; omega
  have hg := (own_lt ho g rfl).2
  obtain ⟨g1, o1, e1, _, a1, a2⟩ := RdC.at_ (Rd.of_own ho) (show i < l.length by omega)
  obtain ⟨g2, o2, e2, _, b1, b2⟩ := RdC.at_ (Rd.of_own ho) (show j < l.length by omega)
  simp only [Option.some.injEq, Addr.mk.injEq, and_true] at e1 e2
  obtain ⟨rfl, rfl⟩ := e1
  obtain ⟨h1, rfl⟩ := e2
  rw [Nat.zero_add] at a1 a2 b1 b2
  rw [← h1] at b1 b2
  rw [sto_default l (by omega), sto_default l (by omega)] at hb
  obtain ⟨x, hx⟩ : ∃ x, l[i].1 = x := ⟨_, rfl⟩
  obtain ⟨y, hy⟩ : ∃ y, l[i].2 = y := ⟨_, rfl⟩
  obtain ⟨p, hp⟩ : ∃ p, l[j].1 = p := ⟨_, rfl⟩
  obtain ⟨q, hq⟩ : ∃ q, l[j].2 = q := ⟨_, rfl⟩
  rw [show l[i] = (x, y) from Prod.ext hx hy, show l[j] = (p, q) from Prod.ext hp hq] at hb
  rw [hx] at a1
  rw [hy] at a2
  rw [hp] at b1
  rw [hq] at b2
  have HV := Lib.hid hb.symm
  have hBl := World.block_lt_of_cell? w _ hB
  have hi0 : (0 : Int) ≤ (i : Int) := by omega
  have hi1 : (i : Int) < (n : Int) := by omega
  have hj0 : (0 : Int) ≤ (j : Int) := by omega
  have hj1 : (j : Int) < (n : Int) := by omega
  clear ho hx hy hp hq hb h1 hl
  go_enter Tryz.func165, Tryz.ntmps165
  go_wp2_with fail
  (refine wp_region_below (by kernel_rfl) (by kernel_rfl) ?_; (repeat (first | go_big_quiet_skip | (refine quietV (v := ?_) (by rfl) rfl (fun w' hbw => ?_) ?_; rotate_left; ((try dsimp only at hbw); have hbc := (bcell hbw).1; have hbf := (bcell hbw).2; go_simp; first | done | with_reducible rfl | exact callsBB (before_i x y p q _) HV.out hbw); simp only [List.setIfInBounds_toArray, List.set_cons_zero, List.set_cons_succ]))); refine wpQuiet_nil ?_; intro wq hbq)
  go_wp2_with fail
  go_ret
  exact ⟨rfl, hbq⟩
theorem own_put {w : World} {base g n c : Nat} {l : List C} (ho : w.ownsRow base 94 2 (.slice (some ⟨g, 0, none⟩) n c) n (vC l)) (k : Nat) (v : C) :
    (w.setCells g (0 + k * 2) [.int .i64 v.1, .int .i64 v.2]).ownsRow base 94 2 (.slice (some ⟨g, 0, none⟩) n c) n (vC (l.set k v)) := by
  have h := ((ho.stored (k * 2) (.int .i64 v.1)).1.stored (k * 2 + 1) (.int .i64 v.2)).1
  rw [vC_set_list] at h
  rw [Nat.zero_add]
  exact h
theorem grown_alloc1 {w w' : World} {o : Obj} {row : Option Nat} (h : (w.alloc o).grownBy w' row) : w.grownBy w' row :=
  ⟨h.os, h.tape, h.output, by have := h.size; simp at this; omega, fun k hk hne => (h.block k (by simp; omega) hne).trans (Below.heap_alloc w o k hk)⟩
theorem grown_of_alloc (w : World) (o : Obj) (r : Option Nat) : w.grownBy (w.alloc o) r := ⟨rfl, rfl, rfl, by simp, fun k hk _ => Below.heap_alloc w o k hk⟩
theorem grown_cells {a w : World} {g o : Nat} (h : a.grownBy w (some g)) (x y : Value) : a.grownBy (w.setCells g o [x, y]) (some g) := grown_set (grown_set h rfl x) rfl y
theorem infoCI : ∃ ie, Tryz.prog.info? 94 = some ie ∧ ie.size = 2 := by
  obtain ⟨i0, hi, _, hz1, _⟩ := info_parts infoC
  exact ⟨i0, hi, hz1⟩
theorem swapCells (sf : Nat) (gS : Bool) (hx : ∀ args W, (callFunc sf args).run Tryz.prog W = ((Extern.ReflectliteSwapper.swap gS args).run Tryz.prog W).andThen fun v w' => .ok (.value v) w') (hagg : ∀ w, (isAgg 94).run Tryz.prog w = .ok true w)
    (base g n c : Nat) (l : List C) (i j : Nat) (w : World) (ho : w.ownsRow base 94 2 (.slice (some ⟨g, 0, none⟩) n c) n (vC l)) (hi : i < n) (hj : j < n) :
    ∃ w', (callFunc sf #[.int .i64 (i : Int), .int .i64 (j : Int), .slice (some ⟨g, 0, none⟩) n c, typeHandle Tryz.prog 94]).run Tryz.prog w = .ok (.value (.tuple #[])) w' ∧
      w'.ownsRow base 94 2 (.slice (some ⟨g, 0, none⟩) n c) n (vC (swL l i j)) ∧ ∀ a, World.grownBy a w (some g) → World.grownBy a w' (some g) := by
  have hl : l.length = n := by have := own_len ho; rw [vC_length] at this; omega
  obtain ⟨ie, hie, hsz⟩ := infoCI
  have hcell : ∀ k (hk : k < n), ∀ u v, ([.int .i64 (l.getD k default).1, .int .i64 (l.getD k default).2] : List Value)[u]? = some v → w.cell? ⟨g, 0 + k * 2 + u, none⟩ = some v := by
    intro k hk u v h
    obtain ⟨g1, o1, e1, _, a1, a2⟩ := RdC.at_ (Rd.of_own ho) (show k < l.length by omega)
    simp only [Option.some.injEq, Addr.mk.injEq, and_true] at e1
    obtain ⟨rfl, rfl⟩ := e1
    rw [sto_default l (by omega)] at h
    match u, h with
    | 0, h => simp at h; rw [← h]; exact a1
    | 1, h => simp at h; rw [← h]; exact a2
    | u + 2, h => simp at h
  have hfro : ∀ o, w.frozen? ⟨g, o, none⟩ = false := fun o => ho.frozenAt o
  have hr := Lib.run_swap_cells (P := Tryz.prog) gS 94 ie hie hagg g 0 n c i j hi hj [.int .i64 (l.getD i default).1, .int .i64 (l.getD i default).2] [.int .i64 (l.getD j default).1, .int .i64 (l.getD j default).2]
    (by rw [hsz]; rfl) (by rw [hsz]; rfl) (by simp [Value.oneCell']) (by simp [Value.oneCell']) w (by rw [hsz]; exact hcell i hi) (by rw [hsz]; exact hcell j hj) (fun k _ => hfro _) (fun k _ => hfro _)
  rw [hsz] at hr
  refine ⟨_, ?_, own_put (own_put ho i (l.getD j default)) j (l.getD i default), fun a h => grown_cells (grown_cells h _ _) _ _⟩
  rw [hx, hr]
  rfl
/-- The row in order. -/
def SrtP (w : World) (base g n c : Nat) (l : List C) (e : Ending) (w' : World) : Prop :=
  e = .returned (.tuple #[]) ∧ ∃ l', l'.length = n ∧ (∀ x, x ∈ l' ↔ x ∈ l) ∧ l'.Pairwise (fun a b => befC b a = false) ∧ w'.ownsRow base 94 2 (.slice (some ⟨g, 0, none⟩) n c) n (vC l') ∧ w.grownBy w' (some g)
/-- What is asked of the exchange. -/
def Swaps (sf : Nat) (th : Value) (base g n c : Nat) : Prop := ∀ (w : World) (l : List C) (i j : Nat), w.ownsRow base 94 2 (.slice (some ⟨g, 0, none⟩) n c) n (vC l) → i < n → j < n →
  ∃ w', (callFunc sf #[.int .i64 (i : Int), .int .i64 (j : Int), .slice (some ⟨g, 0, none⟩) n c, th]).run Tryz.prog w = .ok (.value (.tuple #[])) w' ∧
      w'.ownsRow base 94 2 (.slice (some ⟨g, 0, none⟩) n c) n (vC (swL l i j)) ∧ ∀ a, World.grownBy a w (some g) → World.grownBy a w' (some g)
set_option maxHeartbeats 3200000 in
theorem insSort (sf : Nat) (th : Value) (Bs base g n c : Nat) (hsw : Swaps sf th base g n c) (l0 : List C) (w : World) (ho : w.ownsRow base 94 2 (.slice (some ⟨g, 0, none⟩) n c) n (vC l0)) (hB : w.cell? ⟨Bs, 0, none⟩ = some (.slice (some ⟨g, 0, none⟩) n c)) (hBg : Bs ≠ g) (hn : 1 ≤ n) (hn12 : n ≤ 12) :
    Calls Tryz.prog 205 #[.agg #[.func (.func 165) #[] #[.pointer (some ⟨Bs, 0, none⟩)], .func (.func sf) #[] #[.slice (some ⟨g, 0, none⟩) n c, th]], .int .i64 0, .int .i64 (n : Int)] w (SrtP w base g n c l0) := by
  have hl0 : l0.length = n := by have := own_len ho; rw [vC_length] at this; omega
  have hgl := (own_lt ho g rfl).2
  have HL := Lib.hid hl0
  have HO := Lib.hid ho
  have HBC := Lib.hid hB
  have HSW := Lib.hid hsw
  have HBB := Lib.hid (Blk.new w 164 #[.func (.func 165) #[] #[.pointer (some ⟨Bs, 0, none⟩)], .func (.func sf) #[] #[.slice (some ⟨g, 0, none⟩) n c, th]])
  clear hsw ho hB hl0
  go_enter Tryz.func205, Tryz.ntmps205
  go_wp2
  go_loopw [6] (fun e6 wr => ∃ (i : Nat) (l : List C), 1 ≤ i ∧ i ≤ n ∧ e6 = .int .i64 i ∧ l.length = n ∧ (∀ x, x ∈ l ↔ x ∈ l0) ∧ OrdTo befC l i ∧ wr.ownsRow base 94 2 (.slice (some ⟨g, 0, none⟩) n c) n (vC l) ∧ (w.alloc (.cells #[.func (.func 165) #[] #[.pointer (some ⟨Bs, 0, none⟩)], .func (.func sf) #[] #[.slice (some ⟨g, 0, none⟩) n c, th]] 164)).grownBy wr (some g)) (fun e6 _ => n - (intOf e6).toNat)
  case atStart => exact ⟨1, l0, by omega, by omega, by simp, HL.out, fun x => Iff.rfl, OrdTo.start l0, HO.out.alloc _, World.grownBy.refl _ _⟩
  case round =>
    obtain ⟨i, l, hi1, hin, rfl, hll, hmem, hord, hown, hg⟩ := hrel
    have HLL := Lib.hid hll
    have HM := Lib.hid hmem
    have HOR := Lib.hid hord
    have HOW := Lib.hid hown
    have HG := Lib.hid hg
    clear hll hmem hord hown hg
    by_cases hlt : i < n
    · have hiI : (i : Int) < (n : Int) := by omega
      go_wp2
      go_loopw [7] (fun e7 wr => ∃ (j : Nat) (l : List C), j ≤ i ∧ e7 = .int .i64 j ∧ l.length = n ∧ (∀ x, x ∈ l ↔ x ∈ l0) ∧ NearO befC l i j ∧ wr.ownsRow base 94 2 (.slice (some ⟨g, 0, none⟩) n c) n (vC l) ∧ (w.alloc (.cells #[.func (.func 165) #[] #[.pointer (some ⟨Bs, 0, none⟩)], .func (.func sf) #[] #[.slice (some ⟨g, 0, none⟩) n c, th]] 164)).grownBy wr (some g)) (fun e7 _ => (intOf e7).toNat)
      case atStart => exact ⟨i, l, Nat.le_refl _, rfl, HLL.out, HM.out, HOR.out.near, HOW.out, HG.out⟩
      case round =>
        clear HLL HM HOR HOW HG
        obtain ⟨j, l, hji, rfl, hll, hmem, hnear, hown, hg⟩ := hrel
        have HLL := Lib.hid hll
        have HM := Lib.hid hmem
        have HN := Lib.hid hnear
        have HOW := Lib.hid hown
        have HG := Lib.hid hg
        clear hll hmem hnear hown hg
        by_cases hj0 : 0 < j
        · obtain ⟨p, hp⟩ : ∃ p, j = p + 1 := ⟨j - 1, by omega⟩
          have hjI : (j : Int) > 0 := by omega
          have hpI : (j : Int) - 1 = (p : Int) := by omega
          have hpw : IntKind.i64.wrap (p : Int) = (p : Int) := Go.IntWalk.i64_in _ (by omega)
          have HP := Lib.hid hp
          have hBB := HBB.out.grown HG.out (fun e => by injection e with e; omega)
          have b0 : wr.cell? ⟨w.heap.size, 0, none⟩ = some (.func (.func 165) #[] #[.pointer (some ⟨Bs, 0, none⟩)]) := by simpa using hBB.cell 0
          have b1 : wr.cell? ⟨w.heap.size, 1, none⟩ = some (.func (.func sf) #[] #[.slice (some ⟨g, 0, none⟩) n c, th]) := by simpa using hBB.cell 1
          have bl := hBB.lt
          have HBC2 := Lib.hid (keep_grown HG.out (keep_alloc HBC.out) (by simpa using hBg))
          have HBW := Lib.hid hBB
          have hjn : j < n := by omega
          have hpn : p < n := by omega
          clear hBB hp
          cases hbf : befC (l.getD j default) (l.getD p default) with
          | true =>
            have HBF := Lib.hid hbf
            clear hbf
            go_wp2_with fail
            refine (lessCells Bs base g n c l j p _ HOW.out HBC2.out hjn hpn true HBF.out.symm).mono ?_
            rintro e w1 ⟨rfl, hb1⟩
            have hBB1 := HBW.out.below hb1
            have c1 : w1.cell? ⟨w.heap.size, 1, none⟩ = some (.func (.func sf) #[] #[.slice (some ⟨g, 0, none⟩) n c, th]) := by simpa using hBB1.cell 1
            have cl := hBB1.lt
            obtain ⟨w2, hrun, ho2, hg2⟩ := HSW.out w1 l j p (own_keep HOW.out hb1) hjn hpn
            have HO2 := Lib.hid ho2
            have HG2 := Lib.hid (hg2 _ (grown_below HG.out hb1))
            have HN2 : Hid (NearO befC (swL l j p) i p) := by
              have h1 := HN.out
              rw [HP.out] at h1 ⊢
              exact h1.step befC_sto (by omega) (by rw [HLL.out]; exact hlt) (by rw [← HP.out]; exact HBF.out)
            clear hBB1 ho2 hg2 b0 b1 bl
            go_wp2_with fail
            exact ⟨⟨p, swL l j p, by omega, rfl, by rw [swL_len]; exact HLL.out, fun x => (swL_mem l (by rw [HLL.out]; exact hjn) (by rw [HLL.out]; exact hpn) x).trans (HM.out x), HN2.out, HO2.out, HG2.out⟩, by simp [intOf]; omega⟩
          | false =>
            have HBF := Lib.hid hbf
            clear hbf
            go_wp2_with fail
            refine (lessCells Bs base g n c l j p _ HOW.out HBC2.out hjn hpn false HBF.out.symm).mono ?_
            rintro e w1 ⟨rfl, hb1⟩
            have HO2 : Hid (OrdTo befC l (i + 1)) := by
              have h1 := HN.out
              rw [HP.out] at h1
              exact h1.stop befC_sto (by have := HP.out; omega) (by rw [← HP.out]; exact HBF.out)
            go_wp2_with fail
            exact ⟨⟨i + 1, l, by omega, by omega, by go_num, HLL.out, HM.out, HO2.out, own_keep HOW.out hb1, grown_below HG.out hb1⟩, by simp [intOf]; omega⟩
        · obtain rfl : j = 0 := by omega
          have HO2 := Lib.hid (HN.out.zero)
          clear hj0
          go_wp2_with fail
          exact ⟨⟨i + 1, l, by omega, by omega, by go_num, HLL.out, HM.out, HO2.out, HOW.out, HG.out⟩, by simp [intOf]; omega⟩
    · obtain rfl : i = n := by omega
      have hiI : ¬ (i : Int) < (i : Int) := by omega
      go_wp2
      go_end0
      exact ⟨rfl, l, HLL.out, HM.out, OrdTo.done (by rw [HLL.out]; exact HOR.out), HOW.out, grown_alloc1 HG.out⟩
/-- One cell or none: nothing is asked. -/
theorem insSort1 (S : Value) (F : Value) (base g n c : Nat) (l0 : List C) (w : World) (ho : w.ownsRow base 94 2 (.slice (some ⟨g, 0, none⟩) n c) n (vC l0)) (hn : n ≤ 1) :
    Calls Tryz.prog 205 #[.agg #[F, S], .int .i64 0, .int .i64 (n : Int)] w (SrtP w base g n c l0) := by
  have hl0 : l0.length = n := by have := own_len ho; rw [vC_length] at this; omega
  have HL := Lib.hid hl0
  have HO := Lib.hid ho
  have hnI : ¬ (1 : Int) < (n : Int) := by omega
  clear ho hl0
  go_enter Tryz.func205, Tryz.ntmps205
  go_wp2
  go_loopw [6] (fun e6 wr => e6 = .int .i64 1 ∧ wr = w.alloc (.cells #[F, S] 164)) (fun e6 _ => 0)
  case atStart => exact ⟨by simp, rfl⟩
  case round =>
    obtain ⟨rfl, rfl⟩ := hrel
    go_wp2
    go_end0
    refine ⟨rfl, l0, HL.out, fun x => Iff.rfl, ?_, HO.out.alloc _, grown_of_alloc _ _ _⟩
    rcases (by omega : n = 0 ∨ n = 1) with rfl | rfl
    · rw [List.eq_nil_of_length_eq_zero HL.out]; exact List.Pairwise.nil
    · obtain ⟨a, ha⟩ := List.length_eq_one_iff.1 HL.out
      rw [ha]; exact List.pairwise_singleton _ _
theorem pdqSmall (D : Value) (F S : Value) (hD : D = .agg #[F, S]) (base g n c : Nat) (lim : Int) (l0 : List C) (w : World) (hn12 : n ≤ 12)
    (hi : ∀ w', Below w.heap.size w w' → Calls Tryz.prog 205 #[.agg #[F, S], .int .i64 0, .int .i64 (n : Int)] w' (SrtP w' base g n c l0)) :
    Calls Tryz.prog 188 #[D, .int .i64 0, .int .i64 (n : Int), .int .i64 lim] w (SrtP w base g n c l0) := by
  subst hD
  have HI := Lib.hid hi
  have hnI : (n : Int) ≤ 12 := by omega
  clear hi
  go_enter Tryz.func188, Tryz.ntmps188
  go_wp2
  refine wp_loop_rounds 1 ?_
  rw [rounds_succ]
  go_wp2_with fail
  refine (HI.out _ (by (repeat (first | with_reducible exact Below.refl _ _ | with_reducible assumption | with_reducible apply bel_alloc | with_reducible apply bel_drew | with_reducible apply bel_drewN | ((with_reducible refine bel_set ?_ ?_); rotate_left; (simp <;> omega)) | (with_reducible refine bel_trans ?_ (by with_reducible assumption)))))).mono ?_
  rintro e w1 ⟨rfl, l', h1, h2, h3, h4, h5⟩
  have HR : Hid (SrtP w base g n c l0 (.returned (.tuple #[])) w1) := ⟨rfl, l', h1, h2, h3, h4, grown_alloc1 h5⟩
  clear h1 h2 h3 h4 h5
  go_wp2_with fail
  (try simp only [Exit.inBlock, Exit.then])
  refine bodyPost_ret (results_none rfl _ _ _) rfl ?_
  exact HR.out
noncomputable def tiS : TypeInfo := (Tryz.prog.info? 59).get (by kernel_rfl)
noncomputable def tiC : TypeInfo := (Tryz.prog.info? 94).get (by kernel_rfl)
theorem swapK2 (n : Nat) (h2 : 2 ≤ n) : Lib.swapperK n tiC 25 = 9 := by
  have a : tiC.hasPointers = false := by kernel_rfl
  have b : tiC.bytes = 16 := by kernel_rfl
  have c : (n == 0) = false := by simp; omega
  have d : (n == 1) = false := by simp; omega
  simp [Lib.swapperK, a, b, c, d]
set_option maxRecDepth 100000 in
/-- The library's sort of a slice of one to twelve cells, with the program's test. -/
theorem sortCells (Bs base g n c : Nat) (l0 : List C) (w : World) (ho : w.ownsRow base 94 2 (.slice (some ⟨g, 0, none⟩) n c) n (vC l0)) (hB : w.cell? ⟨Bs, 0, none⟩ = some (.slice (some ⟨g, 0, none⟩) n c)) (hBg : Bs ≠ g) (hn : 1 ≤ n) (hn12 : n ≤ 12) :
    Calls Tryz.prog 164 #[.iface 59 (.slice (some ⟨g, 0, none⟩) n c), .func (.func 165) #[] #[.pointer (some ⟨Bs, 0, none⟩)]] w (SrtP w base g n c l0) := by
  have hagg : ∀ w, (isAgg 94).run Tryz.prog w = .ok true w := fun _ => by kernel_rfl
  have fin : ∀ (W : World), W = sliceWorld Tryz.prog Tryz.laysGg6_ren 59 (some ⟨g, 0, none⟩) n c w → W.ownsRow base 94 2 (.slice (some ⟨g, 0, none⟩) n c) n (vC l0) ∧ W.cell? ⟨Bs, 0, none⟩ = some (.slice (some ⟨g, 0, none⟩) n c) ∧
      ∀ w', W.grownBy w' (some g) → w.grownBy w' (some g) := by
    intro W hW
    subst hW
    unfold sliceWorld
    exact ⟨(ho.alloc _).alloc _, keep_alloc (keep_alloc hB), fun w' h => grown_alloc1 (grown_alloc1 h)⟩
  obtain ⟨h1, h2, h3⟩ := fin _ rfl
  have hpost : ∀ e w', SrtP (sliceWorld Tryz.prog Tryz.laysGg6_ren 59 (some ⟨g, 0, none⟩) n c w) base g n c l0 e w' → e = .returned (.tuple #[]) ∧ (∃ l', l'.length = n ∧ (∀ x, x ∈ l' ↔ x ∈ l0) ∧ l'.Pairwise (fun a b => befC b a = false) ∧ w'.ownsRow base 94 2 (.slice (some ⟨g, 0, none⟩) n c) n (vC l') ∧ w.grownBy w' (some g)) :=
    fun e w' ⟨he, l', a1, a2, a3, a4, a5⟩ => ⟨he, l', a1, a2, a3, a4, h3 _ a5⟩
  by_cases hn2 : 2 ≤ n
  · refine (Any.sort_Slice_of_pdq Tryz.laysGg6 59 94 tiS tiC (by kernel_rfl) (by kernel_rfl) (by kernel_rfl) (by kernel_rfl) 25 (fun _ => by kernel_rfl) (some ⟨g, 0, none⟩) n c (by omega) 202 (by rw [swapK2 n hn2]; kernel_rfl) (.func 165) #[] #[.pointer (some ⟨Bs, 0, none⟩)] w
      (fun w' => ∃ l', l'.length = n ∧ (∀ x, x ∈ l' ↔ x ∈ l0) ∧ l'.Pairwise (fun a b => befC b a = false) ∧ w'.ownsRow base 94 2 (.slice (some ⟨g, 0, none⟩) n c) n (vC l') ∧ w.grownBy w' (some g)) ?_).mono (fun e w' h => ⟨h.1, h.2⟩)
    have hbd : sliceBound Tryz.prog 94 tiC 25 (some ⟨g, 0, none⟩) n c = #[.slice (some ⟨g, 0, none⟩) n c, typeHandle Tryz.prog 94] := by
      unfold sliceBound
      rw [swapK2 n hn2]
      rfl
    rw [hbd]
    have hx : ∀ args W, (callFunc 202 args).run Tryz.prog W = ((Extern.ReflectliteSwapper.swap false args).run Tryz.prog W).andThen fun v w' => .ok (.value v) w' := fun args W => run_callFunc_extern Tryz.func202 (by kernel_rfl) (by kernel_rfl) (by kernel_rfl) (e := Extern.ReflectliteSwapper.swap false) (by kernel_rfl) args W
    refine (pdqSmall _ _ _ rfl base g n c _ l0 _ hn12 fun w' hb => ?_).mono hpost
    exact insSort _ _ Bs base g n c (fun w l i j a b c => swapCells _ false hx hagg base g n _ l i j w a b c) l0 w' (own_keep h1 hb) ((hb.cell (World.block_lt_of_cell? _ _ h2)).trans h2) hBg hn hn12
  · have hn1 : n = 1 := by omega
    subst hn1
    refine (Any.sort_Slice_of_pdq Tryz.laysGg6 59 94 tiS tiC (by kernel_rfl) (by kernel_rfl) (by kernel_rfl) (by kernel_rfl) 25 (fun _ => by kernel_rfl) (some ⟨g, 0, none⟩) 1 c (by omega) 195 (by kernel_rfl) (.func 165) #[] #[.pointer (some ⟨Bs, 0, none⟩)] w
      (fun w' => ∃ l', l'.length = 1 ∧ (∀ x, x ∈ l' ↔ x ∈ l0) ∧ l'.Pairwise (fun a b => befC b a = false) ∧ w'.ownsRow base 94 2 (.slice (some ⟨g, 0, none⟩) 1 c) 1 (vC l') ∧ w.grownBy w' (some g)) ?_).mono (fun e w' h => ⟨h.1, h.2⟩)
    refine (pdqSmall _ _ _ rfl base g 1 c _ l0 _ (by omega) fun w' hb => ?_).mono hpost
    exact insSort1 _ _ base g 1 c l0 w' (own_keep h1 hb) (Nat.le_refl _)
end Go.Proofs.YtglilkneipfheaaGreat

/- Cells put in order, each once: the program, at one to twelve cells. -/
namespace Go.Proofs.YtglilkneipfheaaGreat
open Go.RowKit
set_option linter.unusedVariables false
attribute [local go_sem ↓] Go.wp_at_zero Go.wp_at_succ

theorem keepG_C (l : List C) (k : Nat) : keepG l k = (k == 0 || !decide (l.getD (k - 1) default = l.getD k default)) := by
  unfold keepG
  generalize l.getD (k - 1) default = a
  generalize l.getD k default = b
  congr 1
theorem ded_fin {l xs : List C} (hp : l.Pairwise (fun a b => befC b a = false)) (hm : ∀ x, x ∈ l ↔ x ∈ xs) : dedG l l.length = sortC xs := dedG_eq befC_sto hp hm
set_option maxRecDepth 100000 in
set_option maxHeartbeats 3200000 in
theorem SortCells_i (A : Option Addr) (n c : Nat) (xs : List C) (w : World) (hr : Rd w A (vC xs)) (hl : xs.length = n) (hn : 1 ≤ n) (hn12 : n ≤ 12) :
    Calls Tryz.prog 137 #[.slice A n c] w (RetS w 94 2 (vC (sortC xs))) := by
  have HL := Lib.hid hl
  have HR := Lib.hid hr
  clear hl hr
  go_enter Tryz.func137, Tryz.ntmps137
  go_wp2_with (at_builtin; go_must (refine app_C _ rfl _ _ rfl w.heap.size none 0 0 [] rfl (own_nil _ _ _ _) _ _ _ xs rfl HR.out HL.out (by omega) (by omega) ?_); intro D c2 w1 ho1 hg1 hat1; simp only [Nat.zero_add, List.nil_append] at ho1; obtain ⟨g, hD, hbg, hgl⟩ := own_at ho1 (by omega); subst hD; have HO1 := Lib.hid ho1; have HB1 := Lib.hid (bel_app (Below.refl w.heap.size w) hg1 (fun g h => by cases h)); have HBX := Lib.hid (Blk.new w1 59 #[.slice (some ⟨g, 0, none⟩) n c2]); clear ho1 hg1 hat1)
  have hwl := HB1.out.size
  refine (sortCells w1.heap.size w.heap.size g n c2 xs _ (HO1.out.alloc _) (HBX.out.cell 0) (by omega) hn hn12).mono ?_
  rintro e w2 ⟨rfl, l, hll, hlm, hlp, ho2, hg2⟩
  have hb2 : Below w.heap.size w w2 := bel_app (A := some ⟨g, 0, none⟩) (bel_alloc HB1.out _) hg2 (fun k e => by simp only [ob, Option.map_some, Option.some.injEq] at e; omega)
  have HV : Hid (dedG l n = sortC xs) := by have := ded_fin hlp hlm; rwa [hll] at this
  have hBX := HBX.out.grown hg2 (fun e => by injection e with e; omega)
  have b0 : w2.cell? ⟨w1.heap.size, 0, none⟩ = some (.slice (some ⟨g, 0, none⟩) n c2) := by simpa using hBX.cell 0
  have bl := hBX.lt
  have HBY := Lib.hid hBX
  have HLL := Lib.hid hll
  have HRL := Lib.hid (Rd.of_own ho2)
  have hg3 := (own_lt ho2 g rfl).2
  have hsz2 := hb2.size
  clear hll hlm hlp ho2 hg2 hBX
  go_wp2_with fail
  go_loopw [15, 4] (fun e15 e4 wr => ∃ (k q cq : Nat) (D : Option Addr), k ≤ n ∧ q ≤ k ∧ e15 = .int .i64 k ∧ e4 = .slice D q cq ∧ wr.ownsRow w2.heap.size 94 2 (.slice D q cq) q (vC (dedG l k)) ∧ Below w2.heap.size w2 wr) (fun e15 _ _ => n - (intOf e15).toNat)
  case atStart => exact ⟨0, 0, 0, none, by omega, by omega, rfl, rfl, own_nil _ _ _ _, Below.refl _ _⟩
  case round =>
    obtain ⟨k, q, cq, D, hk, hq, rfl, rfl, hown, hb⟩ := hrel
    by_cases hlt : k < n
    · have hkl : k < l.length := by rw [HLL.out]; exact hlt
      have hrw := HRL.out.below hb
      obtain ⟨g', off, he, _, a1, a2⟩ := RdC.at_ hrw hkl
      simp only [Option.some.injEq, Addr.mk.injEq, and_true] at he
      obtain ⟨rfl, rfl⟩ := he
      rw [Nat.zero_add] at a1 a2
      have hgd : l.getD k default = l[k] := getD_in l hkl
      have hst : dedG l (k + 1) = dedG l k ++ (if keepG l k then [l.getD k default] else []) := rfl
      obtain ⟨x, hx⟩ : ∃ x, l[k].1 = x := ⟨_, rfl⟩
      obtain ⟨y, hy⟩ : ∃ y, l[k].2 = y := ⟨_, rfl⟩
      have hxy : l[k] = (x, y) := Prod.ext hx hy
      rw [hx] at a1
      rw [hy] at a2
      rw [hxy] at hgd
      rw [hgd] at hst
      have HO := Lib.hid hown
      have hbs := hb.size
      have KEEP : Hid (keepG l k = true → dedG l (k + 1) = dedG l k ++ [(x, y)]) := fun h => by rw [hst, h]; rfl
      have SKIP : Hid (keepG l k = false → dedG l (k + 1) = dedG l k) := fun h => by rw [hst, h]; simp
      have hka : keepG l k = (k == 0 || !decide (l.getD (k - 1) default = (x, y))) := by rw [keepG_C, hgd]
      have HKA := Lib.hid hka
      have hglw : g < wr.heap.size := Nat.lt_of_lt_of_le hg3 hb.size
      have hB := HBY.out.below hb
      have d0 : wr.cell? ⟨w1.heap.size, 0, none⟩ = some (.slice (some ⟨g, 0, none⟩) n c2) := by simpa using hB.cell 0
      have dl := hB.lt
      have hk1 : (0 : Int) ≤ (k : Int) := by omega
      have hk2 : (k : Int) < (n : Int) := by omega
      clear hx hy hxy hst hgd hka hown hB b0 bl
      by_cases hk0 : k = 0
      · have e0 : ((k : Int) == 0) = true := by simp [hk0]
        have HN := Lib.hid (KEEP.out (by rw [HKA.out, hk0]; rfl))
        clear KEEP SKIP HKA hk0
        go_wp2_with fail
        (refine wp_region_below (by kernel_rfl) (by kernel_rfl) ?_; (repeat (first | go_big_quiet_skip | (refine quietV (v := ?_) (by rfl) rfl (fun w' hbw => ?_) ?_; rotate_left; ((try dsimp only at hbw); have hbc := (bcell hbw).1; have hbf := (bcell hbw).2; go_simp; first | done | with_reducible rfl | fail); simp only [List.setIfInBounds_toArray, List.set_cons_zero, List.set_cons_succ]))); refine wpQuiet_nil ?_; intro wq hbq)
        have hbz := hbq.size
        simp only [World.size_alloc] at hbz
        have hCB := (Blk.new wr 94 #[.int .i64 x, .int .i64 y]).below hbq
        have z0 : wq.cell? ⟨wr.heap.size, 0, none⟩ = some (.int .i64 x) := by simpa using hCB.cell 0
        have z1 : wq.cell? ⟨wr.heap.size, 1, none⟩ = some (.int .i64 y) := by simpa using hCB.cell 1
        have zl := hCB.lt
        clear hCB
        go_wp2_with (at_builtin; go_must (refine app_C _ rfl _ _ rfl w2.heap.size _ _ _ _ rfl (own_keep (own_keep (HO.out.alloc _) hbq) (bel_alloc (Below.refl _ _) _)) _ _ _ [(x, y)] rfl (rd_newC _ _ _ _) rfl (by omega) (by simp; omega) ?_); intro D2 cp2 w8 ho8 hg8 hat8; have HO8 := Lib.hid ho8; have HG8 := Lib.hid hg8; clear ho8 hg8 hat8)
        exact ⟨⟨k + 1, q + 1, cp2, D2, by omega, by omega, by go_num, rfl, by rw [HN.out]; exact HO8.out, bel_app (bel_alloc (bel_trans (bel_alloc hb _) hbq) _) HG8.out (fun g' hg1 => ((own_lt HO.out) g' hg1).1)⟩, by simp [intOf]; omega⟩
      · obtain ⟨j, hjk⟩ : ∃ j, k = j + 1 := ⟨k - 1, by omega⟩
        have hjl : j < l.length := by omega
        obtain ⟨g', off', he, _, c1, c3⟩ := RdC.at_ hrw hjl
        simp only [Option.some.injEq, Addr.mk.injEq, and_true] at he
        obtain ⟨rfl, rfl⟩ := he
        rw [Nat.zero_add] at c1 c3
        obtain ⟨p, hp⟩ : ∃ p, l[j].1 = p := ⟨_, rfl⟩
        obtain ⟨r, hr⟩ : ∃ r, l[j].2 = r := ⟨_, rfl⟩
        have hgj : l.getD (k - 1) default = (p, r) := by rw [hjk, Nat.add_sub_cancel, getD_in l hjl]; exact Prod.ext hp hr
        rw [hp] at c1
        rw [hr] at c3
        have e0 : ((k : Int) == 0) = false := by simp; omega
        have hj1 : (k : Int) - 1 = (j : Int) := by omega
        have hj0 : (0 : Int) ≤ (j : Int) := by omega
        have hjw : IntKind.i64.wrap (j : Int) = (j : Int) := Go.IntWalk.i64_in _ (by omega)
        have hjm : (j : Int) < (n : Int) := by omega
        have hkk : (k == 0) = false := by simpa using hk0
        have hkz : ¬ k = 0 := hk0
        have HKK := Lib.hid hkk
        have HGJ := Lib.hid hgj
        clear hp hr hgj hjk hkk hk0
        by_cases hsame : p = x ∧ r = y
        · obtain ⟨rfl, rfl⟩ := hsame
          have HN := Lib.hid (SKIP.out (by rw [HKA.out, HKK.out, HGJ.out]; simp))
          have hne : (p == p && r == r) = true := by simp
          clear KEEP SKIP HKA
          go_wp2_with fail
          (refine wp_region_below (by kernel_rfl) (by kernel_rfl) ?_; (repeat (first | go_big_quiet_skip | (refine quietV (v := ?_) (by rfl) rfl (fun w' hbw => ?_) ?_; rotate_left; ((try dsimp only at hbw); have hbc := (bcell hbw).1; have hbf := (bcell hbw).2; go_simp; first | done | with_reducible rfl | fail); simp only [List.setIfInBounds_toArray, List.set_cons_zero, List.set_cons_succ]))); refine wpQuiet_nil ?_; intro wq hbq)
          go_wp2_with fail
          exact ⟨⟨k + 1, q, cq, D, by omega, by omega, by go_num, rfl, by rw [HN.out]; exact own_keep (HO.out.alloc _) hbq, bel_trans (bel_alloc hb _) hbq⟩, by simp [intOf]; omega⟩
        · have hne : (p == x && r == y) = false := by
            rw [Bool.and_eq_false_iff, beq_eq_false_iff_ne, beq_eq_false_iff_ne]
            by_cases h1 : p = x
            · exact .inr fun h2 => hsame ⟨h1, h2⟩
            · exact .inl h1
          have HN := Lib.hid (KEEP.out (by
            rw [HKA.out, HKK.out, HGJ.out, Bool.false_or, decide_eq_false (fun e => hsame (by injection e with e1 e2; exact ⟨e1, e2⟩))]
            rfl))
          clear KEEP SKIP HKA hsame
          go_wp2_with fail
          (refine wp_region_below (by kernel_rfl) (by kernel_rfl) ?_; (repeat (first | go_big_quiet_skip | (refine quietV (v := ?_) (by rfl) rfl (fun w' hbw => ?_) ?_; rotate_left; ((try dsimp only at hbw); have hbc := (bcell hbw).1; have hbf := (bcell hbw).2; go_simp; first | done | with_reducible rfl | fail); simp only [List.setIfInBounds_toArray, List.set_cons_zero, List.set_cons_succ]))); refine wpQuiet_nil ?_; intro wq hbq)
          have hbz := hbq.size
          simp only [World.size_alloc] at hbz
          have hCB := (Blk.new wr 94 #[.int .i64 x, .int .i64 y]).below hbq
          have z0 : wq.cell? ⟨wr.heap.size, 0, none⟩ = some (.int .i64 x) := by simpa using hCB.cell 0
          have z1 : wq.cell? ⟨wr.heap.size, 1, none⟩ = some (.int .i64 y) := by simpa using hCB.cell 1
          have zl := hCB.lt
          clear hCB
          go_wp2_with (at_builtin; go_must (refine app_C _ rfl _ _ rfl w2.heap.size _ _ _ _ rfl (own_keep (own_keep (HO.out.alloc _) hbq) (bel_alloc (Below.refl _ _) _)) _ _ _ [(x, y)] rfl (rd_newC _ _ _ _) rfl (by omega) (by simp; omega) ?_); intro D2 cp2 w8 ho8 hg8 hat8; have HO8 := Lib.hid ho8; have HG8 := Lib.hid hg8; clear ho8 hg8 hat8)
          exact ⟨⟨k + 1, q + 1, cp2, D2, by omega, by omega, by go_num, rfl, by rw [HN.out]; exact HO8.out, bel_app (bel_alloc (bel_trans (bel_alloc hb _) hbq) _) HG8.out (fun g' hg1 => ((own_lt HO.out) g' hg1).1)⟩, by simp [intOf]; omega⟩
    · obtain rfl : k = n := by omega
      rw [HV.out] at hown
      have HO := Lib.hid (own_base hown hsz2)
      have hk1 : ¬ (k : Int) < (k : Int) := by omega
      clear hown
      go_wp2
      go_ret
      exact ⟨_, _, _, rfl, HO.out, bel_trans hb2 hb⟩
end Go.Proofs.YtglilkneipfheaaGreat

/- Cells moved, moved to their corner, the neighbours of a cell: the program. -/
namespace Go.Proofs.YtglilkneipfheaaGreat
open Go.RowKit
set_option linter.unusedVariables false
attribute [local go_sem ↓] Go.wp_at_zero Go.wp_at_succ

theorem copyCells_i2 (A : Option Addr) (n c : Nat) (xs : List C) (w : World) (hr : Rd w A (vC xs)) (hl : xs.length = n) (hn : n ≤ 1048576) :
    Calls Tryz.prog 96 #[.slice A n c] w (RetS w 94 2 (vC xs)) := by
  have HL := Lib.hid hl
  clear hl
  go_enter Tryz.func96, Tryz.ntmps96
  go_wp2_with (at_builtin; go_must (refine app_C _ rfl _ _ rfl w.heap.size none 0 0 [] rfl (own_nil _ _ _ _) _ _ _ xs rfl hr HL.out (by omega) (by omega) ?_); intro A' c' w' hown' hg' hat'; simp only [Nat.zero_add, List.nil_append] at hown'; have HO := Lib.hid hown'; have HB := Lib.hid (bel_app (Below.refl w.heap.size w) hg' (fun g h => by cases h)); clear hown' hg' hat')
  go_ret
  exact ⟨_, _, _, rfl, HO.out, HB.out⟩
set_option maxHeartbeats 800000 in
theorem moved_i (A : Option Addr) (n c : Nat) (xs : List C) (x y : Int) (w : World) (hr : Rd w A (vC xs)) (hl : xs.length = n) (hn : n ≤ 1048576) (hs : ∀ d ∈ xs, small d) (hx : -1000 ≤ x ∧ x ≤ 1000) (hy : -1000 ≤ y ∧ y ≤ 1000) :
    Calls Tryz.prog 125 #[.slice A n c, .int .i64 x, .int .i64 y] w (RetS w 94 2 (vC (mv xs x y))) := by
  have HL := Lib.hid hl
  have HS := Lib.hid hs
  obtain ⟨hx1, hx2⟩ := hx
  obtain ⟨hy1, hy2⟩ := hy
  clear hl hs
  go_enter Tryz.func125, Tryz.ntmps125
  go_wp2
  go_loopw [12, 7] (fun e12 e7 wr => ∃ (k cq : Nat) (D : Option Addr), k ≤ n ∧ e12 = .int .i64 k ∧ e7 = .slice D k cq ∧ wr.ownsRow w.heap.size 94 2 (.slice D k cq) k (vC (mv (xs.take k) x y)) ∧ Below w.heap.size w wr) (fun e12 _ _ => n - (intOf e12).toNat)
  case atStart => exact ⟨0, 0, none, Nat.zero_le _, rfl, rfl, own_nil _ _ _ _, Below.refl _ _⟩
  case round =>
    obtain ⟨k, cq, D, hk, rfl, rfl, hown, hb⟩ := hrel
    by_cases hlt : k < n
    · have hkl : k < xs.length := by rw [HL.out]; exact hlt
      have hk0 : (0 : Int) ≤ (k : Int) := by omega
      have hk1 : (k : Int) < (n : Int) := by omega
      obtain ⟨g, off, rfl, hg, d1, d2⟩ := RdC.at_ (hr.below hb) hkl
      have hst := mv_take xs x y k hkl
      have hsm := HS.out _ (List.getElem_mem hkl)
      obtain ⟨p, hp⟩ : ∃ p, xs[k].1 = p := ⟨_, rfl⟩
      obtain ⟨q, hq⟩ : ∃ q, xs[k].2 = q := ⟨_, rfl⟩
      unfold small at hsm
      rw [hp, hq] at hsm hst
      rw [hp] at d1
      rw [hq] at d2
      have e1 : IntKind.i64.wrap (p + x) = p + x := Go.IntWalk.i64_in _ (by omega)
      have e2 : IntKind.i64.wrap (q + y) = q + y := Go.IntWalk.i64_in _ (by omega)
      have HST := Lib.hid hst
      have HO := Lib.hid hown
      have hbs := hb.size
      have HRN : Hid (Rd ((wr.alloc (.cells #[.int .i64 p, .int .i64 q] 94)).alloc (.cells #[.int .i64 (p + x), .int .i64 (q + y)] 94)) (some ⟨wr.heap.size + 1, 0, none⟩) (vC [(p + x, q + y)])) := by
        have := rd_newC (wr.alloc (.cells #[.int .i64 p, .int .i64 q] 94)) 94 (p + x) (q + y)
        rw [show (wr.alloc (.cells #[.int .i64 p, .int .i64 q] 94)).heap.size = wr.heap.size + 1 from by simp] at this
        exact this
      clear hst hown hp hq hsm
      go_wp2_with (at_builtin; go_must (refine app_C _ rfl _ _ rfl w.heap.size _ _ _ _ rfl ((HO.out.alloc _).alloc _) _ _ _ [(p + x, q + y)] rfl HRN.out rfl (by omega) (by simp; omega) ?_); intro D2 cp2 w8 ho8 hg8 hat8; have HO8 := Lib.hid ho8; have HG8 := Lib.hid hg8; clear ho8 hg8 hat8)
      exact ⟨⟨k + 1, cp2, D2, by omega, by go_num, rfl, by rw [HST.out]; exact HO8.out, bel_app (bel_alloc (bel_alloc hb _) _) HG8.out (fun g' hg1 => ((own_lt HO.out) g' hg1).1)⟩, by simp [intOf]; omega⟩
    · obtain rfl : k = n := by omega
      rw [List.take_of_length_le (by rw [HL.out]; omega)] at hown
      have HO := Lib.hid hown
      have hk1 : ¬ (k : Int) < (k : Int) := by omega
      clear hown
      go_wp2
      go_ret
      exact ⟨_, _, _, rfl, HO.out, hb⟩
set_option maxHeartbeats 1600000 in
theorem corner_i (A : Option Addr) (n c : Nat) (xs : List C) (w : World) (hr : Rd w A (vC xs)) (hl : xs.length = n) (hn1 : 1 ≤ n) (hn : n ≤ 12) (hs : ∀ d ∈ xs, small d) :
    Calls Tryz.prog 94 #[.slice A n c] w (RetS w 94 2 (vC (cornI xs))) := by
  have h0 : 0 < xs.length := by omega
  have hsm := minC_small h0 hs
  have hms : ∀ k, k ≤ n → (-1000 ≤ minTo (·.1) xs k ∧ minTo (·.1) xs k ≤ 1000) ∧ (-1000 ≤ minTo (·.2) xs k ∧ minTo (·.2) xs k ≤ 1000) := by
    intro k hk
    obtain ⟨a, ha, e1⟩ := minTo_at (·.1) xs h0 k (by omega)
    obtain ⟨b, hb, e2⟩ := minTo_at (·.2) xs h0 k (by omega)
    have h1 := hs a ha
    have h2 := hs b hb
    unfold small at h1 h2
    rw [e1, e2]
    exact ⟨h1.1, h2.2⟩
  have hV : cornI xs = sortC (mv xs (-(minTo (·.1) xs n)) (-(minTo (·.2) xs n))) := by unfold cornI minC; rw [hl]
  have HV := Lib.hid hV
  have HL := Lib.hid hl
  have HS := Lib.hid hs
  have HMS := Lib.hid hms
  have HR := Lib.hid hr
  obtain ⟨g0, o0, hA, hg0, z1, z2⟩ := RdC.at_ hr h0
  subst hA
  obtain ⟨u, hu⟩ : ∃ u, xs[0].1 = u := ⟨_, rfl⟩
  obtain ⟨v, hv⟩ : ∃ v, xs[0].2 = v := ⟨_, rfl⟩
  rw [hu] at z1
  rw [hv] at z2
  simp only [Nat.zero_mul, Nat.add_zero] at z1 z2
  have H1 : Hid (minTo (·.1) xs 0 = u) := by show (xs.getD 0 default).1 = u; rw [getD_in xs h0, hu]
  have H2 : Hid (minTo (·.2) xs 0 = v) := by show (xs.getD 0 default).2 = v; rw [getD_in xs h0, hv]
  have hn0 : (0 : Int) < (n : Int) := by omega
  have hn00 : 0 < n := by omega
  clear hl hs hms hr hV hu hv hsm
  go_enter Tryz.func94, Tryz.ntmps94
  go_wp2_with fail
  (refine wp_region_below (by kernel_rfl) (by kernel_rfl) ?_; (repeat (first | go_big_quiet_skip | (refine quietV (v := ?_) (by rfl) rfl (fun w' hbw => ?_) ?_; rotate_left; ((try dsimp only at hbw); have hbc := (bcell hbw).1; have hbf := (bcell hbw).2; go_simp; first | done | with_reducible rfl | fail); simp only [List.setIfInBounds_toArray, List.set_cons_zero, List.set_cons_succ]))); refine wpQuiet_nil ?_; intro wq hbq)
  clear z1 z2
  go_wp2_with fail
  go_loopw [17, 3, 4] (fun e17 e3 e4 wr => ∃ (k : Nat) (px py : Int), k ≤ n ∧ e17 = .int .i64 k ∧ e3 = .int .i64 px ∧ e4 = .int .i64 py ∧ minTo (·.1) xs k = px ∧ minTo (·.2) xs k = py ∧ Below w.heap.size w wr) (fun e17 _ _ _ => n - (intOf e17).toNat)
  case atStart => exact ⟨0, u, v, Nat.zero_le _, rfl, rfl, rfl, H1.out, H2.out, hbq⟩
  case round =>
    obtain ⟨k, px, py, hk, rfl, rfl, rfl, hpx, hpy, hb⟩ := hrel
    have HPX := Lib.hid hpx
    have HPY := Lib.hid hpy
    clear hpx hpy
    by_cases hlt : k < n
    · have hkl : k < xs.length := by rw [HL.out]; exact hlt
      have hk0 : (0 : Int) ≤ (k : Int) := by omega
      have hk1 : (k : Int) < (n : Int) := by omega
      obtain ⟨g, off, he, hg, d1, d2⟩ := RdC.at_ (HR.out.below hb) hkl
      simp only [Option.some.injEq, Addr.mk.injEq, and_true] at he
      obtain ⟨rfl, rfl⟩ := he
      obtain ⟨p, hp⟩ : ∃ p, xs[k].1 = p := ⟨_, rfl⟩
      obtain ⟨q, hq⟩ : ∃ q, xs[k].2 = q := ⟨_, rfl⟩
      rw [hp] at d1
      rw [hq] at d2
      have S1 : Hid (minTo (·.1) xs (k + 1) = if p < px then p else px) := by show minTo (·.1) xs (k + 1) = _; unfold minTo; rw [getD_in xs hkl, hp, HPX.out]
      have S2 : Hid (minTo (·.2) xs (k + 1) = if q < py then q else py) := by show minTo (·.2) xs (k + 1) = _; unfold minTo; rw [getD_in xs hkl, hq, HPY.out]
      clear hp hq
      by_cases h1 : p < px
      · by_cases h2 : q < py
        · have T1 : Hid (minTo (·.1) xs (k + 1) = p) := by show _ = _; rw [S1.out]; exact if_pos h1
          have T2 : Hid (minTo (·.2) xs (k + 1) = q) := by show _ = _; rw [S2.out]; exact if_pos h2
          go_wp2_with fail
          (refine wp_region_below (by kernel_rfl) (by kernel_rfl) ?_; (repeat (first | go_big_quiet_skip | (refine quietV (v := ?_) (by rfl) rfl (fun w' hbw => ?_) ?_; rotate_left; ((try dsimp only at hbw); have hbc := (bcell hbw).1; have hbf := (bcell hbw).2; go_simp; first | done | with_reducible rfl | fail); simp only [List.setIfInBounds_toArray, List.set_cons_zero, List.set_cons_succ]))); refine wpQuiet_nil ?_; intro wq hbq)
          go_wp2_with fail
          exact ⟨⟨k + 1, p, q, by omega, by go_num, by first | rfl | (simp <;> omega), by first | rfl | (simp <;> omega), T1.out, T2.out, bel_trans (bel_alloc hb _) hbq⟩, by simp [intOf]; omega⟩
        · have T1 : Hid (minTo (·.1) xs (k + 1) = p) := by show _ = _; rw [S1.out]; exact if_pos h1
          have T2 : Hid (minTo (·.2) xs (k + 1) = py) := by show _ = _; rw [S2.out]; exact if_neg h2
          go_wp2_with fail
          (refine wp_region_below (by kernel_rfl) (by kernel_rfl) ?_; (repeat (first | go_big_quiet_skip | (refine quietV (v := ?_) (by rfl) rfl (fun w' hbw => ?_) ?_; rotate_left; ((try dsimp only at hbw); have hbc := (bcell hbw).1; have hbf := (bcell hbw).2; go_simp; first | done | with_reducible rfl | fail); simp only [List.setIfInBounds_toArray, List.set_cons_zero, List.set_cons_succ]))); refine wpQuiet_nil ?_; intro wq hbq)
          go_wp2_with fail
          exact ⟨⟨k + 1, p, py, by omega, by go_num, by first | rfl | (simp <;> omega), by first | rfl | (simp <;> omega), T1.out, T2.out, bel_trans (bel_alloc hb _) hbq⟩, by simp [intOf]; omega⟩
      · by_cases h2 : q < py
        · have T1 : Hid (minTo (·.1) xs (k + 1) = px) := by show _ = _; rw [S1.out]; exact if_neg h1
          have T2 : Hid (minTo (·.2) xs (k + 1) = q) := by show _ = _; rw [S2.out]; exact if_pos h2
          go_wp2_with fail
          (refine wp_region_below (by kernel_rfl) (by kernel_rfl) ?_; (repeat (first | go_big_quiet_skip | (refine quietV (v := ?_) (by rfl) rfl (fun w' hbw => ?_) ?_; rotate_left; ((try dsimp only at hbw); have hbc := (bcell hbw).1; have hbf := (bcell hbw).2; go_simp; first | done | with_reducible rfl | fail); simp only [List.setIfInBounds_toArray, List.set_cons_zero, List.set_cons_succ]))); refine wpQuiet_nil ?_; intro wq hbq)
          go_wp2_with fail
          exact ⟨⟨k + 1, px, q, by omega, by go_num, by first | rfl | (simp <;> omega), by first | rfl | (simp <;> omega), T1.out, T2.out, bel_trans (bel_alloc hb _) hbq⟩, by simp [intOf]; omega⟩
        · have T1 : Hid (minTo (·.1) xs (k + 1) = px) := by show _ = _; rw [S1.out]; exact if_neg h1
          have T2 : Hid (minTo (·.2) xs (k + 1) = py) := by show _ = _; rw [S2.out]; exact if_neg h2
          go_wp2_with fail
          (refine wp_region_below (by kernel_rfl) (by kernel_rfl) ?_; (repeat (first | go_big_quiet_skip | (refine quietV (v := ?_) (by rfl) rfl (fun w' hbw => ?_) ?_; rotate_left; ((try dsimp only at hbw); have hbc := (bcell hbw).1; have hbf := (bcell hbw).2; go_simp; first | done | with_reducible rfl | fail); simp only [List.setIfInBounds_toArray, List.set_cons_zero, List.set_cons_succ]))); refine wpQuiet_nil ?_; intro wq hbq)
          go_wp2_with fail
          exact ⟨⟨k + 1, px, py, by omega, by go_num, by first | rfl | (simp <;> omega), by first | rfl | (simp <;> omega), T1.out, T2.out, bel_trans (bel_alloc hb _) hbq⟩, by simp [intOf]; omega⟩
    · obtain rfl : k = n := by omega
      have hk1 : ¬ (k : Int) < (k : Int) := by omega
      have hms := HMS.out k (Nat.le_refl _)
      rw [HPX.out, HPY.out] at hms
      obtain ⟨⟨q1, q2⟩, q3, q4⟩ := hms
      have e1 : IntKind.i64.wrap (-px) = -px := Go.IntWalk.i64_in _ (by omega)
      have e2 : IntKind.i64.wrap (-py) = -py := Go.IntWalk.i64_in _ (by omega)
      go_wp2_with fail
      refine (moved_i _ k c xs (-px) (-py) _ (HR.out.below hb) HL.out (by omega) HS.out (by omega) (by omega)).mono ?_
      rintro e w1 ⟨D, m, cD, rfl, ho, hb1⟩
      have hm : m = k := by have := own_len ho; rw [vC_length, mv_len, HL.out] at this; omega
      subst hm
      have HO := Lib.hid ho
      clear ho
      go_wp2_with fail
      refine (SortCells_i D m cD _ _ (Rd.of_own HO.out) (by rw [mv_len]; exact HL.out) hn1 hn).mono ?_
      rintro e w2 ⟨E, m2, cE, rfl, ho2, hb2⟩
      rw [← HPX.out, ← HPY.out, ← HV.out] at ho2
      have HO2 := Lib.hid (own_base (base' := w.heap.size) ho2 (by have := hb.size; have := hb1.size; omega))
      clear ho2
      go_wp2_with fail
      go_ret
      exact ⟨_, _, _, rfl, HO2.out, bel_trans (bel_trans hb hb1) hb2⟩
end Go.Proofs.YtglilkneipfheaaGreat

/- Slices of shapes: read, owned. -/
namespace Go.Proofs.YtglilkneipfheaaGreat
open Go.RowKit
set_option linter.unusedVariables false
/-- A slice header whose memory is a block of cells that reads as f. -/
def CRow (w : World) (x : H) (f : List C) : Prop := f.length = x.2.1 ∧ Rd w x.1 (vC f) ∧ ∀ g, ob x.1 = some g → ∃ cur z, w.heap[g]? = some (.cells cur 94 z)
/-- A slice of shapes that reads as F. -/
structure RdF (w : World) (A : Option Addr) (n : Nat) (hs : List H) (F : List (List C)) : Prop where
  top : Rd w A (vS hs)
  hlen : hs.length = n
  flen : F.length = n
  row : ∀ (i : Nat) x f, hs[i]? = some x → F[i]? = some f → CRow w x f
/-- .. and whose own block is the call's own. -/
structure OwnF (base : Nat) (w : World) (A : Option Addr) (n c : Nat) (hs : List H) (F : List (List C)) : Prop where
  own : w.ownsRow base 59 1 (.slice A n c) n (vS hs)
  flen : F.length = n
  row : ∀ (i : Nat) x f, hs[i]? = some x → F[i]? = some f → CRow w x f
section
variable {w w' : World} {x : H} {f : List C} {A : Option Addr} {n c base : Nat} {hs : List H} {F : List (List C)}
theorem CRow.lt (h : CRow w x f) : ∀ g, ob x.1 = some g → g < w.heap.size := fun g e => by
  obtain ⟨cur, z, h1⟩ := h.2.2 g e
  exact (Array.getElem?_eq_some_iff.1 h1).1
theorem CRow.below (h : CRow w x f) (hb : Below w.heap.size w w') : CRow w' x f :=
  ⟨h.1, h.2.1.below hb, fun g e => by obtain ⟨cur, z, h1⟩ := h.2.2 g e; exact ⟨cur, z, (hb.block g (Array.getElem?_eq_some_iff.1 h1).1).trans h1⟩⟩
theorem CRow.of_own (h : w.ownsRow base 94 2 (.slice A n c) n (vC f)) : CRow w (A, n, c) f := by
  refine ⟨by have := own_len h; rw [vC_length] at this; show f.length = n; omega, Rd.of_own h, fun g e => ?_⟩
  rcases h.2 with ⟨hv, _⟩ | ⟨g', cap, cur, hv, _, hg, _⟩
  · injection hv with hA
    subst hA
    simp [ob] at e
  · injection hv with hA
    subst hA
    simp only [ob, Option.map_some, Option.some.injEq] at e
    subst e
    exact ⟨cur, _, hg⟩
/-- A row of cells lies apart from a block of headers. -/
theorem CRow.apart (h : CRow w x f) {A : Option Addr} {n c base : Nat} {vs : List Value} {sz : Nat} (ho : w.ownsRow base 59 sz (.slice A n c) n vs) : ∀ g, ob x.1 = some g → ob A ≠ some g := by
  intro g e ea
  obtain ⟨cur, z, h1⟩ := h.2.2 g e
  rcases ho.2 with ⟨hv, _⟩ | ⟨g', cap, cur', hv, _, hg, _⟩
  · injection hv with hA
    subst hA
    simp [ob] at ea
  · injection hv with hA
    subst hA
    simp only [ob, Option.map_some, Option.some.injEq] at ea
    subst ea
    rw [h1] at hg
    injection hg with hg
    injection hg with _ h3
    exact absurd h3 (by decide)
theorem CRow.grown {row : Option Nat} (h : CRow w x f) (hg : w.grownBy w' row) (hn : ∀ g, ob x.1 = some g → row ≠ some g) : CRow w' x f :=
  ⟨h.1, h.2.1.grown hg (fun g e r => hn g (by simpa using e) r.symm), fun g e => by
    obtain ⟨cur, z, h1⟩ := h.2.2 g e
    exact ⟨cur, z, (hg.block g (Array.getElem?_eq_some_iff.1 h1).1 (fun r => hn g e r.symm)).trans h1⟩⟩
theorem OwnF.hlen (h : OwnF base w A n c hs F) : hs.length = n := by have := own_len h.own; rw [vS_length] at this; omega
theorem OwnF.rd (h : OwnF base w A n c hs F) : RdF w A n hs F := ⟨Rd.of_own h.own, h.hlen, h.flen, h.row⟩
theorem RdF.below (h : RdF w A n hs F) (hb : Below w.heap.size w w') : RdF w' A n hs F := ⟨h.top.below hb, h.hlen, h.flen, fun i x f a b => (h.row i x f a b).below hb⟩
theorem OwnF.below (h : OwnF base w A n c hs F) (hb : Below w.heap.size w w') : OwnF base w' A n c hs F := ⟨own_keep h.own hb, h.flen, fun i x f a b => (h.row i x f a b).below hb⟩
theorem OwnF.mono {base' : Nat} (h : OwnF base w A n c hs F) (hb : base' ≤ base) : OwnF base' w A n c hs F := ⟨own_base h.own hb, h.flen, h.row⟩
theorem OwnF.nil (base : Nat) (w : World) : OwnF base w none 0 0 [] [] := ⟨own_nil _ _ _ _, rfl, fun i x f a => by simp at a⟩
theorem OwnF.none_ (h : w.ownsRow base 59 1 (.slice A 0 c) 0 []) : OwnF base w A 0 c [] [] := ⟨h, rfl, fun i x f a => by simp at a⟩
theorem RdF.at_ (h : RdF w A n hs F) {k : Nat} (hk : k < n) : ∃ (x : H) (f : List C) (g off : Nat), hs[k]? = some x ∧ F[k]? = some f ∧ A = some ⟨g, off, none⟩ ∧ g < w.heap.size ∧ w.cell? ⟨g, off + k, none⟩ = some (.slice x.1 x.2.1 x.2.2) ∧ CRow w x f := by
  have a : k < hs.length := by rw [h.hlen]; exact hk
  have b : k < F.length := by rw [h.flen]; exact hk
  obtain ⟨g, off, e, hg, c1⟩ := RdS.at_ h.top a
  exact ⟨hs[k], F[k], g, off, List.getElem?_eq_getElem a, List.getElem?_eq_getElem b, e, hg, c1, h.row k _ _ (List.getElem?_eq_getElem a) (List.getElem?_eq_getElem b)⟩
end
/-- A result that is a slice of shapes of the call's own. -/
def RetF (w : World) (F : List (List C)) (e : Ending) (w' : World) : Prop :=
  ∃ A n c hs, e = .returned (.slice A n c) ∧ OwnF w.heap.size w' A n c hs F ∧ Below w.heap.size w w'
/-- The place in an ordered list. -/
theorem countP_cut {α : Type} {p : α → Bool} {F : List α} {k : Nat} (hk : k ≤ F.length) (h1 : ∀ (t : Nat) x, t < k → F[t]? = some x → p x = true) (h2 : ∀ (t : Nat) x, k ≤ t → F[t]? = some x → p x = false) : F.countP p = k := by
  have e : F.countP p = (F.take k).countP p + (F.drop k).countP p := by rw [← List.countP_append, List.take_append_drop]
  have e1 : (F.take k).countP p = k := by
    have : (F.take k).countP p = (F.take k).length := by
      rw [List.countP_eq_length]
      intro x hx
      obtain ⟨i, hi, rfl⟩ := List.mem_iff_getElem.1 hx
      rw [List.length_take] at hi
      exact h1 i _ (by omega) (by rw [List.getElem_take]; exact List.getElem?_eq_getElem (by omega))
    rw [this, List.length_take]
    omega
  have e2 : (F.drop k).countP p = 0 := by
    rw [List.countP_eq_zero]
    intro x hx
    obtain ⟨i, hi, rfl⟩ := List.mem_iff_getElem.1 hx
    rw [List.length_drop] at hi
    rw [List.getElem_drop]
    simpa using h2 (k + i) _ (by omega) (List.getElem?_eq_getElem (by omega))
  omega
end Go.Proofs.YtglilkneipfheaaGreat

/- Shapes compared: both sides. -/
namespace Go.Proofs.YtglilkneipfheaaGreat
open Go.RowKit
set_option linter.unusedVariables false
attribute [local go_sem ↓] Go.wp_at_zero Go.wp_at_succ
set_option maxHeartbeats 1600000 in
theorem CompareShapes_i (A B : Option Addr) (n c m d : Nat) (xs ys : List C) (w : World) (hr : Rd w A (vC xs)) (hr2 : Rd w B (vC ys)) (hl : xs.length = n) (hl2 : ys.length = m) (hn : n ≤ 1099511627776) (hm : m ≤ 1099511627776) :
    Calls Tryz.prog 177 #[.slice A n c, .slice B m d] w (Ret w (.int .i64 (cmpS xs ys))) := by
  rcases Nat.lt_trichotomy n m with hlt | heq | hgt
  · have HV : Hid (cmpS xs ys = -1) := cmpS_len (by omega)
    have h1 : (n : Int) < (m : Int) := by omega
    have h2 : ((n : Int) != (m : Int)) = true := by rw [bne_iff_ne]; omega
    clear hl hl2
    go_enter Tryz.func177, Tryz.ntmps177
    go_wp2
    go_ret
    exact ⟨by rw [HV.out]; rfl, (by (repeat (first | with_reducible exact Below.refl _ _ | with_reducible assumption | with_reducible apply bel_alloc | with_reducible apply bel_drew | with_reducible apply bel_drewN | ((with_reducible refine bel_set ?_ ?_); rotate_left; (simp <;> omega)) | (with_reducible refine bel_trans ?_ (by with_reducible assumption)))))⟩
  · subst heq
    have HLL : Hid (xs.length = ys.length) := hl.trans hl2.symm
    have HL := Lib.hid hl
    have HL2 := Lib.hid hl2
    have h1 : decide ((n : Int) < (n : Int)) = false := by simp
    clear hl hl2
    go_enter Tryz.func177, Tryz.ntmps177
    go_wp2
    go_loopw [20] (fun e5 wr => ∃ k : Nat, k ≤ n ∧ e5 = .int .i64 k ∧ xs.take k = ys.take k ∧ Below w.heap.size w wr) (fun e5 _ => n - (intOf e5).toNat)
    case atStart => exact ⟨0, Nat.zero_le _, rfl, rfl, Below.refl _ _⟩
    case round =>
      obtain ⟨k, hk, rfl, htk, hb⟩ := hrel
      have HT := Lib.hid htk
      clear htk
      by_cases hkn : k < n
      · have hk1 : k < xs.length := by rw [HL.out]; exact hkn
        have hk2 : k < ys.length := by rw [HL2.out]; exact hkn
        have hk0 : (0 : Int) ≤ (k : Int) := by omega
        have hkI : (k : Int) < (n : Int) := by omega
        obtain ⟨g1, o1, rfl, hg1, a1, a2⟩ := RdC.at_ (hr.below hb) hk1
        obtain ⟨g2, o2, rfl, hg2, b1, b2⟩ := RdC.at_ (hr2.below hb) hk2
        obtain ⟨x, hx⟩ : ∃ x, xs[k].1 = x := ⟨_, rfl⟩
        obtain ⟨y, hy⟩ : ∃ y, xs[k].2 = y := ⟨_, rfl⟩
        obtain ⟨p, hp⟩ : ∃ p, ys[k].1 = p := ⟨_, rfl⟩
        obtain ⟨q, hq⟩ : ∃ q, ys[k].2 = q := ⟨_, rfl⟩
        have hxy : xs[k] = (x, y) := Prod.ext hx hy
        have hpq : ys[k] = (p, q) := Prod.ext hp hq
        rw [hx] at a1
        rw [hy] at a2
        rw [hp] at b1
        rw [hq] at b2
        have HAT := Lib.hid (cmpS_at HLL.out hk1 HT.out (x, y) (p, q) hxy hpq)
        have HST : Hid ((x, y) = (p, q) → xs.take (k + 1) = ys.take (k + 1)) := fun e => take_eq_step hk1 hk2 HT.out (by rw [hxy, hpq, e])
        clear hx hy hp hq hxy hpq
        cases h3 : befC (x, y) (p, q) with
        | true =>
          have HV := Lib.hid (HAT.out.1 h3)
          have H3 := Lib.hid h3
          clear h3
          go_wp2_with fail
          (refine wp_region_below (by kernel_rfl) (by kernel_rfl) ?_; (repeat (first | go_big_quiet_skip | (refine quietV (v := ?_) (by rfl) rfl (fun w' hbw => ?_) ?_; rotate_left; ((try dsimp only at hbw); have hbc := (bcell hbw).1; have hbf := (bcell hbw).2; go_simp; first | done | with_reducible rfl | exact callsBB (before_i x y p q _) H3.out hbw); simp only [List.setIfInBounds_toArray, List.set_cons_zero, List.set_cons_succ]))); refine wpQuiet_nil ?_; intro wq hbq)
          go_wp2_with fail
          go_ret
          exact ⟨by rw [HV.out]; rfl, (by (repeat (first | with_reducible exact Below.refl _ _ | with_reducible assumption | with_reducible apply bel_alloc | with_reducible apply bel_drew | with_reducible apply bel_drewN | ((with_reducible refine bel_set ?_ ?_); rotate_left; (simp <;> omega)) | (with_reducible refine bel_trans ?_ (by with_reducible assumption)))))⟩
        | false =>
          have H3 := Lib.hid h3
          cases h4 : befC (p, q) (x, y) with
          | true =>
            have HV := Lib.hid (HAT.out.2 h4)
            have H4 := Lib.hid h4
            clear h3 h4
            go_wp2_with fail
            (refine wp_region_below (by kernel_rfl) (by kernel_rfl) ?_; (repeat (first | go_big_quiet_skip | (refine quietV (v := ?_) (by rfl) rfl (fun w' hbw => ?_) ?_; rotate_left; ((try dsimp only at hbw); have hbc := (bcell hbw).1; have hbf := (bcell hbw).2; go_simp; first | done | with_reducible rfl | exact callsBB (before_i x y p q _) H3.out hbw); simp only [List.setIfInBounds_toArray, List.set_cons_zero, List.set_cons_succ]))); refine wpQuiet_nil ?_; intro wq hbq)
            have c1 := (hbq.cell hg1).trans a1
            have c2 := (hbq.cell hg1).trans a2
            have c3 := (hbq.cell hg2).trans b1
            have c4 := (hbq.cell hg2).trans b2
            have hg3 : g1 < wq.heap.size := Nat.lt_of_lt_of_le hg1 hbq.size
            have hg4 : g2 < wq.heap.size := Nat.lt_of_lt_of_le hg2 hbq.size
            clear a1 a2 b1 b2 hg1 hg2
            go_wp2_with fail
            (refine wp_region_below (by kernel_rfl) (by kernel_rfl) ?_; (repeat (first | go_big_quiet_skip | (refine quietV (v := ?_) (by rfl) rfl (fun w' hbw => ?_) ?_; rotate_left; ((try dsimp only at hbw); have hbc := (bcell hbw).1; have hbf := (bcell hbw).2; go_simp; first | done | with_reducible rfl | exact callsBB (before_i p q x y _) H4.out hbw); simp only [List.setIfInBounds_toArray, List.set_cons_zero, List.set_cons_succ]))); refine wpQuiet_nil ?_; intro wz hbz)
            go_wp2_with fail
            go_ret
            exact ⟨by rw [HV.out]; rfl, bel_trans (bel_trans hb hbq) hbz⟩
          | false =>
            have HE := Lib.hid (befC_sto.tot h3 h4)
            have H4 := Lib.hid h4
            clear h3 h4
            go_wp2_with fail
            (refine wp_region_below (by kernel_rfl) (by kernel_rfl) ?_; (repeat (first | go_big_quiet_skip | (refine quietV (v := ?_) (by rfl) rfl (fun w' hbw => ?_) ?_; rotate_left; ((try dsimp only at hbw); have hbc := (bcell hbw).1; have hbf := (bcell hbw).2; go_simp; first | done | with_reducible rfl | exact callsBB (before_i x y p q _) H3.out hbw); simp only [List.setIfInBounds_toArray, List.set_cons_zero, List.set_cons_succ]))); refine wpQuiet_nil ?_; intro wq hbq)
            have c1 := (hbq.cell hg1).trans a1
            have c2 := (hbq.cell hg1).trans a2
            have c3 := (hbq.cell hg2).trans b1
            have c4 := (hbq.cell hg2).trans b2
            have hg3 : g1 < wq.heap.size := Nat.lt_of_lt_of_le hg1 hbq.size
            have hg4 : g2 < wq.heap.size := Nat.lt_of_lt_of_le hg2 hbq.size
            clear a1 a2 b1 b2 hg1 hg2
            go_wp2_with fail
            (refine wp_region_below (by kernel_rfl) (by kernel_rfl) ?_; (repeat (first | go_big_quiet_skip | (refine quietV (v := ?_) (by rfl) rfl (fun w' hbw => ?_) ?_; rotate_left; ((try dsimp only at hbw); have hbc := (bcell hbw).1; have hbf := (bcell hbw).2; go_simp; first | done | with_reducible rfl | exact callsBB (before_i p q x y _) H4.out hbw); simp only [List.setIfInBounds_toArray, List.set_cons_zero, List.set_cons_succ]))); refine wpQuiet_nil ?_; intro wz hbz)
            go_wp2_with fail
            exact ⟨⟨k + 1, by omega, by go_num, HST.out HE.out, bel_trans (bel_trans hb hbq) hbz⟩, by simp [intOf]; omega⟩
      · have hkn2 : k = n := by omega
        have HV : Hid (cmpS xs ys = 0) := by
          show cmpS xs ys = 0
          rw [take_eq_all HLL.out (by rw [HL.out]; omega) HT.out]
          exact cmpS_eq _
        subst hkn2
        have hk1 : ¬ (k : Int) < (k : Int) := by omega
        go_wp2
        go_ret
        exact ⟨by rw [HV.out]; rfl, hb⟩
  · have HV : Hid (cmpS xs ys = 1) := cmpS_len2 (by omega)
    have h1 : decide ((n : Int) < (m : Int)) = false := by simp; omega
    have h2 : ((n : Int) != (m : Int)) = true := by rw [bne_iff_ne]; omega
    have h3 : (n : Int) > (m : Int) := by omega
    clear hl hl2
    go_enter Tryz.func177, Tryz.ntmps177
    go_wp2
    go_ret
    exact ⟨by rw [HV.out]; rfl, (by (repeat (first | with_reducible exact Below.refl _ _ | with_reducible assumption | with_reducible apply bel_alloc | with_reducible apply bel_drew | with_reducible apply bel_drewN | ((with_reducible refine bel_set ?_ ?_); rotate_left; (simp <;> omega)) | (with_reducible refine bel_trans ?_ (by with_reducible assumption)))))⟩
set_option maxHeartbeats 1600000 in
theorem CompareShapes_s (A B : Option Addr) (n c m d : Nat) (xs ys : List C) (w : World) (hr : Rd w A (vC xs)) (hr2 : Rd w B (vC ys)) (hl : xs.length = n) (hl2 : ys.length = m) (hn : n ≤ 1099511627776) (hm : m ≤ 1099511627776) :
    Calls Tryz.prog 169 #[.slice A n c, .slice B m d] w (Ret w (.int .i64 (cmpS xs ys))) := by
  rcases Nat.lt_trichotomy n m with hlt | heq | hgt
  · have HV : Hid (cmpS xs ys = -1) := cmpS_len (by omega)
    have h1 : (n : Int) < (m : Int) := by omega
    have h2 : ((n : Int) != (m : Int)) = true := by rw [bne_iff_ne]; omega
    clear hl hl2
    go_enter Tryz.func169, Tryz.ntmps169
    go_wp2
    go_ret
    exact ⟨by rw [HV.out]; rfl, (by (repeat (first | with_reducible exact Below.refl _ _ | with_reducible assumption | with_reducible apply bel_alloc | with_reducible apply bel_drew | with_reducible apply bel_drewN | ((with_reducible refine bel_set ?_ ?_); rotate_left; (simp <;> omega)) | (with_reducible refine bel_trans ?_ (by with_reducible assumption)))))⟩
  · subst heq
    have HLL : Hid (xs.length = ys.length) := hl.trans hl2.symm
    have HL := Lib.hid hl
    have HL2 := Lib.hid hl2
    have h1 : decide ((n : Int) < (n : Int)) = false := by simp
    clear hl hl2
    go_enter Tryz.func169, Tryz.ntmps169
    go_wp2
    go_loopw [5] (fun e5 wr => ∃ k : Nat, k ≤ n ∧ e5 = .int .i64 k ∧ xs.take k = ys.take k ∧ Below w.heap.size w wr) (fun e5 _ => n - (intOf e5).toNat)
    case atStart => exact ⟨0, Nat.zero_le _, rfl, rfl, Below.refl _ _⟩
    case round =>
      obtain ⟨k, hk, rfl, htk, hb⟩ := hrel
      have HT := Lib.hid htk
      clear htk
      by_cases hkn : k < n
      · have hk1 : k < xs.length := by rw [HL.out]; exact hkn
        have hk2 : k < ys.length := by rw [HL2.out]; exact hkn
        have hk0 : (0 : Int) ≤ (k : Int) := by omega
        have hkI : (k : Int) < (n : Int) := by omega
        obtain ⟨g1, o1, rfl, hg1, a1, a2⟩ := RdC.at_ (hr.below hb) hk1
        obtain ⟨g2, o2, rfl, hg2, b1, b2⟩ := RdC.at_ (hr2.below hb) hk2
        obtain ⟨x, hx⟩ : ∃ x, xs[k].1 = x := ⟨_, rfl⟩
        obtain ⟨y, hy⟩ : ∃ y, xs[k].2 = y := ⟨_, rfl⟩
        obtain ⟨p, hp⟩ : ∃ p, ys[k].1 = p := ⟨_, rfl⟩
        obtain ⟨q, hq⟩ : ∃ q, ys[k].2 = q := ⟨_, rfl⟩
        have hxy : xs[k] = (x, y) := Prod.ext hx hy
        have hpq : ys[k] = (p, q) := Prod.ext hp hq
        rw [hx] at a1
        rw [hy] at a2
        rw [hp] at b1
        rw [hq] at b2
        have HAT := Lib.hid (cmpS_at HLL.out hk1 HT.out (x, y) (p, q) hxy hpq)
        have HST : Hid ((x, y) = (p, q) → xs.take (k + 1) = ys.take (k + 1)) := fun e => take_eq_step hk1 hk2 HT.out (by rw [hxy, hpq, e])
        clear hx hy hp hq hxy hpq
        by_cases hsame : x = p ∧ y = q
        · obtain ⟨rfl, rfl⟩ := hsame
          go_wp2_with fail
          (refine wp_region_below (by kernel_rfl) (by kernel_rfl) ?_; (repeat (first | go_big_quiet_skip | (refine quietV (v := ?_) (by rfl) rfl (fun w' hbw => ?_) ?_; rotate_left; ((try dsimp only at hbw); have hbc := (bcell hbw).1; have hbf := (bcell hbw).2; go_simp; first | done | with_reducible rfl | fail); simp only [List.setIfInBounds_toArray, List.set_cons_zero, List.set_cons_succ]))); refine wpQuiet_nil ?_; intro wq hbq)
          go_wp2_with fail
          exact ⟨⟨k + 1, by omega, by go_num, HST.out (by simp), bel_trans hb hbq⟩, by simp [intOf]; omega⟩
        · have hne : (x == p && y == q) = false := by
            rw [Bool.and_eq_false_iff, beq_eq_false_iff_ne, beq_eq_false_iff_ne]
            by_cases h1 : x = p
            · exact .inr fun h2 => hsame ⟨h1, h2⟩
            · exact .inl h1
          cases h3 : befC (x, y) (p, q) with
          | true =>
            have HV := Lib.hid (HAT.out.1 h3)
            have H3 := Lib.hid h3
            clear h3 hsame
            go_wp2_with fail
            (refine wp_region_below (by kernel_rfl) (by kernel_rfl) ?_; (repeat (first | go_big_quiet_skip | (refine quietV (v := ?_) (by rfl) rfl (fun w' hbw => ?_) ?_; rotate_left; ((try dsimp only at hbw); have hbc := (bcell hbw).1; have hbf := (bcell hbw).2; go_simp; first | done | with_reducible rfl | fail); simp only [List.setIfInBounds_toArray, List.set_cons_zero, List.set_cons_succ]))); refine wpQuiet_nil ?_; intro wq hbq)
            have c1 := (hbq.cell hg1).trans a1
            have c2 := (hbq.cell hg1).trans a2
            have c3 := (hbq.cell hg2).trans b1
            have c4 := (hbq.cell hg2).trans b2
            have hg3 : g1 < wq.heap.size := Nat.lt_of_lt_of_le hg1 hbq.size
            have hg4 : g2 < wq.heap.size := Nat.lt_of_lt_of_le hg2 hbq.size
            clear a1 a2 b1 b2 hg1 hg2
            go_wp2_with fail
            (refine wp_region_below (by kernel_rfl) (by kernel_rfl) ?_; (repeat (first | go_big_quiet_skip | (refine quietV (v := ?_) (by rfl) rfl (fun w' hbw => ?_) ?_; rotate_left; ((try dsimp only at hbw); have hbc := (bcell hbw).1; have hbf := (bcell hbw).2; go_simp; first | done | with_reducible rfl | exact callsBB (l2Before_s x y p q _) H3.out hbw); simp only [List.setIfInBounds_toArray, List.set_cons_zero, List.set_cons_succ]))); refine wpQuiet_nil ?_; intro wz hbz)
            go_wp2_with fail
            go_ret
            exact ⟨by rw [HV.out]; rfl, bel_trans (bel_trans hb hbq) hbz⟩
          | false =>
            have HV : Hid (cmpS xs ys = 1) := HAT.out.2 (by
              cases h4 : befC (p, q) (x, y) with
              | true => rfl
              | false => exact absurd (befC_sto.tot h3 h4) (fun e => hsame (by injection e with e1 e2; exact ⟨e1, e2⟩)))
            have H3 := Lib.hid h3
            clear h3 hsame
            go_wp2_with fail
            (refine wp_region_below (by kernel_rfl) (by kernel_rfl) ?_; (repeat (first | go_big_quiet_skip | (refine quietV (v := ?_) (by rfl) rfl (fun w' hbw => ?_) ?_; rotate_left; ((try dsimp only at hbw); have hbc := (bcell hbw).1; have hbf := (bcell hbw).2; go_simp; first | done | with_reducible rfl | fail); simp only [List.setIfInBounds_toArray, List.set_cons_zero, List.set_cons_succ]))); refine wpQuiet_nil ?_; intro wq hbq)
            have c1 := (hbq.cell hg1).trans a1
            have c2 := (hbq.cell hg1).trans a2
            have c3 := (hbq.cell hg2).trans b1
            have c4 := (hbq.cell hg2).trans b2
            have hg3 : g1 < wq.heap.size := Nat.lt_of_lt_of_le hg1 hbq.size
            have hg4 : g2 < wq.heap.size := Nat.lt_of_lt_of_le hg2 hbq.size
            clear a1 a2 b1 b2 hg1 hg2
            go_wp2_with fail
            (refine wp_region_below (by kernel_rfl) (by kernel_rfl) ?_; (repeat (first | go_big_quiet_skip | (refine quietV (v := ?_) (by rfl) rfl (fun w' hbw => ?_) ?_; rotate_left; ((try dsimp only at hbw); have hbc := (bcell hbw).1; have hbf := (bcell hbw).2; go_simp; first | done | with_reducible rfl | exact callsBB (l2Before_s x y p q _) H3.out hbw); simp only [List.setIfInBounds_toArray, List.set_cons_zero, List.set_cons_succ]))); refine wpQuiet_nil ?_; intro wz hbz)
            go_wp2_with fail
            go_ret
            exact ⟨by rw [HV.out]; rfl, bel_trans (bel_trans hb hbq) hbz⟩
      · have hkn2 : k = n := by omega
        have HV : Hid (cmpS xs ys = 0) := by
          show cmpS xs ys = 0
          rw [take_eq_all HLL.out (by rw [HL.out]; omega) HT.out]
          exact cmpS_eq _
        subst hkn2
        have hk1 : ¬ (k : Int) < (k : Int) := by omega
        go_wp2
        go_ret
        exact ⟨by rw [HV.out]; rfl, hb⟩
  · have HV : Hid (cmpS xs ys = 1) := cmpS_len2 (by omega)
    have h1 : decide ((n : Int) < (m : Int)) = false := by simp; omega
    have h2 : ((n : Int) != (m : Int)) = true := by rw [bne_iff_ne]; omega
    have h3 : (n : Int) > (m : Int) := by omega
    clear hl hl2
    go_enter Tryz.func169, Tryz.ntmps169
    go_wp2
    go_ret
    exact ⟨by rw [HV.out]; rfl, (by (repeat (first | with_reducible exact Below.refl _ _ | with_reducible assumption | with_reducible apply bel_alloc | with_reducible apply bel_drew | with_reducible apply bel_drewN | ((with_reducible refine bel_set ?_ ?_); rotate_left; (simp <;> omega)) | (with_reducible refine bel_trans ?_ (by with_reducible assumption)))))⟩
set_option maxHeartbeats 800000 in
theorem EqualShapes_i (A B : Option Addr) (n c m d : Nat) (xs ys : List C) (w : World) (hr : Rd w A (vC xs)) (hr2 : Rd w B (vC ys)) (hl : xs.length = n) (hl2 : ys.length = m) (hn : n ≤ 1099511627776) (hm : m ≤ 1099511627776) :
    Calls Tryz.prog 178 #[.slice A n c, .slice B m d] w (Ret w (.bool (decide (xs = ys)))) := by
  by_cases heq : n = m
  · subst heq
    have HLL : Hid (xs.length = ys.length) := hl.trans hl2.symm
    have HL := Lib.hid hl
    have HL2 := Lib.hid hl2
    have h1 : ((n : Int) != (n : Int)) = false := by simp
    clear hl hl2
    go_enter Tryz.func178, Tryz.ntmps178
    go_wp2
    go_loopw [13] (fun e5 wr => ∃ k : Nat, k ≤ n ∧ e5 = .int .i64 k ∧ xs.take k = ys.take k ∧ Below w.heap.size w wr) (fun e5 _ => n - (intOf e5).toNat)
    case atStart => exact ⟨0, Nat.zero_le _, rfl, rfl, Below.refl _ _⟩
    case round =>
      obtain ⟨k, hk, rfl, htk, hb⟩ := hrel
      have HT := Lib.hid htk
      clear htk
      by_cases hkn : k < n
      · have hk1 : k < xs.length := by rw [HL.out]; exact hkn
        have hk2 : k < ys.length := by rw [HL2.out]; exact hkn
        have hk0 : (0 : Int) ≤ (k : Int) := by omega
        have hkI : (k : Int) < (n : Int) := by omega
        obtain ⟨g1, o1, rfl, hg1, a1, a2⟩ := RdC.at_ (hr.below hb) hk1
        obtain ⟨g2, o2, rfl, hg2, b1, b2⟩ := RdC.at_ (hr2.below hb) hk2
        obtain ⟨x, hx⟩ : ∃ x, xs[k].1 = x := ⟨_, rfl⟩
        obtain ⟨y, hy⟩ : ∃ y, xs[k].2 = y := ⟨_, rfl⟩
        obtain ⟨p, hp⟩ : ∃ p, ys[k].1 = p := ⟨_, rfl⟩
        obtain ⟨q, hq⟩ : ∃ q, ys[k].2 = q := ⟨_, rfl⟩
        have hxy : xs[k] = (x, y) := Prod.ext hx hy
        have hpq : ys[k] = (p, q) := Prod.ext hp hq
        rw [hx] at a1
        rw [hy] at a2
        rw [hp] at b1
        rw [hq] at b2
        have HST : Hid ((x, y) = (p, q) → xs.take (k + 1) = ys.take (k + 1)) := fun e => take_eq_step hk1 hk2 HT.out (by rw [hxy, hpq, e])
        have HNE : Hid ((x, y) ≠ (p, q) → xs ≠ ys) := fun e h => e (by subst h; rw [← hxy, ← hpq])
        clear hx hy hp hq hxy hpq
        by_cases hsame : x = p ∧ y = q
        · obtain ⟨rfl, rfl⟩ := hsame
          go_wp2_with fail
          (refine wp_region_below (by kernel_rfl) (by kernel_rfl) ?_; (repeat (first | go_big_quiet_skip | (refine quietV (v := ?_) (by rfl) rfl (fun w' hbw => ?_) ?_; rotate_left; ((try dsimp only at hbw); have hbc := (bcell hbw).1; have hbf := (bcell hbw).2; go_simp; first | done | with_reducible rfl | fail); simp only [List.setIfInBounds_toArray, List.set_cons_zero, List.set_cons_succ]))); refine wpQuiet_nil ?_; intro wq hbq)
          go_wp2_with fail
          exact ⟨⟨k + 1, by omega, by go_num, HST.out (by simp), bel_trans hb hbq⟩, by simp [intOf]; omega⟩
        · have hne : (x == p && y == q) = false := by
            rw [Bool.and_eq_false_iff, beq_eq_false_iff_ne, beq_eq_false_iff_ne]
            by_cases h1 : x = p
            · exact .inr fun h2 => hsame ⟨h1, h2⟩
            · exact .inl h1
          have HV : Hid (decide (xs = ys) = false) := decide_eq_false (HNE.out (fun e => hsame (by injection e with e1 e2; exact ⟨e1, e2⟩)))
          clear hsame
          go_wp2_with fail
          (refine wp_region_below (by kernel_rfl) (by kernel_rfl) ?_; (repeat (first | go_big_quiet_skip | (refine quietV (v := ?_) (by rfl) rfl (fun w' hbw => ?_) ?_; rotate_left; ((try dsimp only at hbw); have hbc := (bcell hbw).1; have hbf := (bcell hbw).2; go_simp; first | done | with_reducible rfl | fail); simp only [List.setIfInBounds_toArray, List.set_cons_zero, List.set_cons_succ]))); refine wpQuiet_nil ?_; intro wq hbq)
          go_wp2_with fail
          go_ret
          exact ⟨by rw [HV.out]; rfl, bel_trans hb hbq⟩
      · have hkn2 : k = n := by omega
        have HV : Hid (decide (xs = ys) = true) := decide_eq_true (take_eq_all HLL.out (by rw [HL.out]; omega) HT.out)
        subst hkn2
        have hk1 : ¬ (k : Int) < (k : Int) := by omega
        go_wp2
        go_ret
        exact ⟨by rw [HV.out]; rfl, hb⟩
  · have HV : Hid (decide (xs = ys) = false) := decide_eq_false (fun e => heq (by rw [← hl, ← hl2, e]))
    have h2 : ((n : Int) != (m : Int)) = true := by rw [bne_iff_ne]; omega
    clear hl hl2
    go_enter Tryz.func178, Tryz.ntmps178
    go_wp2
    go_ret
    exact ⟨by rw [HV.out]; rfl, (by (repeat (first | with_reducible exact Below.refl _ _ | with_reducible assumption | with_reducible apply bel_alloc | with_reducible apply bel_drew | with_reducible apply bel_drewN | ((with_reducible refine bel_set ?_ ?_); rotate_left; (simp <;> omega)) | (with_reducible refine bel_trans ?_ (by with_reducible assumption)))))⟩
set_option maxHeartbeats 800000 in
theorem EqualShapes_s (A B : Option Addr) (n c m d : Nat) (xs ys : List C) (w : World) (hr : Rd w A (vC xs)) (hr2 : Rd w B (vC ys)) (hl : xs.length = n) (hl2 : ys.length = m) (hn : n ≤ 1099511627776) (hm : m ≤ 1099511627776) :
    Calls Tryz.prog 51 #[.slice A n c, .slice B m d] w (Ret w (.bool (decide (xs = ys)))) := by
  by_cases heq : n = m
  · subst heq
    have HLL : Hid (xs.length = ys.length) := hl.trans hl2.symm
    have HL := Lib.hid hl
    have HL2 := Lib.hid hl2
    have h1 : ((n : Int) != (n : Int)) = false := by simp
    clear hl hl2
    go_enter Tryz.func51, Tryz.ntmps51
    go_wp2
    go_loopw [5] (fun e5 wr => ∃ k : Nat, k ≤ n ∧ e5 = .int .i64 k ∧ xs.take k = ys.take k ∧ Below w.heap.size w wr) (fun e5 _ => n - (intOf e5).toNat)
    case atStart => exact ⟨0, Nat.zero_le _, rfl, rfl, Below.refl _ _⟩
    case round =>
      obtain ⟨k, hk, rfl, htk, hb⟩ := hrel
      have HT := Lib.hid htk
      clear htk
      by_cases hkn : k < n
      · have hk1 : k < xs.length := by rw [HL.out]; exact hkn
        have hk2 : k < ys.length := by rw [HL2.out]; exact hkn
        have hk0 : (0 : Int) ≤ (k : Int) := by omega
        have hkI : (k : Int) < (n : Int) := by omega
        obtain ⟨g1, o1, rfl, hg1, a1, a2⟩ := RdC.at_ (hr.below hb) hk1
        obtain ⟨g2, o2, rfl, hg2, b1, b2⟩ := RdC.at_ (hr2.below hb) hk2
        obtain ⟨x, hx⟩ : ∃ x, xs[k].1 = x := ⟨_, rfl⟩
        obtain ⟨y, hy⟩ : ∃ y, xs[k].2 = y := ⟨_, rfl⟩
        obtain ⟨p, hp⟩ : ∃ p, ys[k].1 = p := ⟨_, rfl⟩
        obtain ⟨q, hq⟩ : ∃ q, ys[k].2 = q := ⟨_, rfl⟩
        have hxy : xs[k] = (x, y) := Prod.ext hx hy
        have hpq : ys[k] = (p, q) := Prod.ext hp hq
        rw [hx] at a1
        rw [hy] at a2
        rw [hp] at b1
        rw [hq] at b2
        have HST : Hid ((x, y) = (p, q) → xs.take (k + 1) = ys.take (k + 1)) := fun e => take_eq_step hk1 hk2 HT.out (by rw [hxy, hpq, e])
        have HNE : Hid ((x, y) ≠ (p, q) → xs ≠ ys) := fun e h => e (by subst h; rw [← hxy, ← hpq])
        clear hx hy hp hq hxy hpq
        by_cases hsame : x = p ∧ y = q
        · obtain ⟨rfl, rfl⟩ := hsame
          go_wp2_with fail
          (refine wp_region_below (by kernel_rfl) (by kernel_rfl) ?_; (repeat (first | go_big_quiet_skip | (refine quietV (v := ?_) (by rfl) rfl (fun w' hbw => ?_) ?_; rotate_left; ((try dsimp only at hbw); have hbc := (bcell hbw).1; have hbf := (bcell hbw).2; go_simp; first | done | with_reducible rfl | fail); simp only [List.setIfInBounds_toArray, List.set_cons_zero, List.set_cons_succ]))); refine wpQuiet_nil ?_; intro wq hbq)
          go_wp2_with fail
          exact ⟨⟨k + 1, by omega, by go_num, HST.out (by simp), bel_trans hb hbq⟩, by simp [intOf]; omega⟩
        · have hne : (x == p && y == q) = false := by
            rw [Bool.and_eq_false_iff, beq_eq_false_iff_ne, beq_eq_false_iff_ne]
            by_cases h1 : x = p
            · exact .inr fun h2 => hsame ⟨h1, h2⟩
            · exact .inl h1
          have HV : Hid (decide (xs = ys) = false) := decide_eq_false (HNE.out (fun e => hsame (by injection e with e1 e2; exact ⟨e1, e2⟩)))
          clear hsame
          go_wp2_with fail
          (refine wp_region_below (by kernel_rfl) (by kernel_rfl) ?_; (repeat (first | go_big_quiet_skip | (refine quietV (v := ?_) (by rfl) rfl (fun w' hbw => ?_) ?_; rotate_left; ((try dsimp only at hbw); have hbc := (bcell hbw).1; have hbf := (bcell hbw).2; go_simp; first | done | with_reducible rfl | fail); simp only [List.setIfInBounds_toArray, List.set_cons_zero, List.set_cons_succ]))); refine wpQuiet_nil ?_; intro wq hbq)
          go_wp2_with fail
          go_ret
          exact ⟨by rw [HV.out]; rfl, bel_trans hb hbq⟩
      · have hkn2 : k = n := by omega
        have HV : Hid (decide (xs = ys) = true) := decide_eq_true (take_eq_all HLL.out (by rw [HL.out]; omega) HT.out)
        subst hkn2
        have hk1 : ¬ (k : Int) < (k : Int) := by omega
        go_wp2
        go_ret
        exact ⟨by rw [HV.out]; rfl, hb⟩
  · have HV : Hid (decide (xs = ys) = false) := decide_eq_false (fun e => heq (by rw [← hl, ← hl2, e]))
    have h2 : ((n : Int) != (m : Int)) = true := by rw [bne_iff_ne]; omega
    clear hl hl2
    go_enter Tryz.func51, Tryz.ntmps51
    go_wp2
    go_ret
    exact ⟨by rw [HV.out]; rfl, (by (repeat (first | with_reducible exact Below.refl _ _ | with_reducible assumption | with_reducible apply bel_alloc | with_reducible apply bel_drew | with_reducible apply bel_drewN | ((with_reducible refine bel_set ?_ ?_); rotate_left; (simp <;> omega)) | (with_reducible refine bel_trans ?_ (by with_reducible assumption)))))⟩
end Go.Proofs.YtglilkneipfheaaGreat

/- The place of a shape in an ordered list: the library's search with the program's own test. -/
namespace Go.Proofs.YtglilkneipfheaaGreat
open Go.RowKit
set_option linter.unusedVariables false
attribute [local go_sem ↓] Go.wp_at_zero Go.wp_at_succ

theorem world_lt {w : World} {a : Addr} {v : Value} (h : w.cell? a = some v) : a.block < w.heap.size := World.block_lt_of_cell? w a h
set_option maxHeartbeats 800000 in
/-- The test: is the shape at place i not less than the one that is sought? -/
theorem putTest (b2 b3 : Nat) (A : Option Addr) (n c : Nat) (hs : List H) (F : List (List C)) (B : Option Addr) (m d : Nat) (f : List C) (i : Nat) (w : World) (hr : RdF w A n hs F) (hf : CRow w (B, m, d) f)
    (c2 : w.cell? ⟨b2, 0, none⟩ = some (.slice A n c)) (c3 : w.cell? ⟨b3, 0, none⟩ = some (.slice B m d)) (hi : i < n) (hl : ∀ x ∈ F, x.length ≤ 1048576) (hm : m ≤ 1048576) (b : Bool) (hv : b = !ltS (F.getD i default) f) :
    Calls Tryz.prog 176 #[.int .i64 (i : Int), .pointer (some ⟨b2, 0, none⟩), .pointer (some ⟨b3, 0, none⟩)] w (Ret w (.bool b)) := by
  obtain ⟨x, t, g, off, hsx, hfx, rfl, hg, c1, hrow⟩ := hr.at_ hi
  have ht : F.getD i default = t := by rw [List.getD_eq_getElem?_getD, hfx]; rfl
  have htl := hl t (List.mem_of_getElem? hfx)
  obtain ⟨C1, m1, k1⟩ := x
  have h1 : t.length = m1 := hrow.1
  have H1 := Lib.hid h1
  have HR := Lib.hid hrow
  have HF := Lib.hid hf
  have HB := Lib.hid (world_lt c2)
  have HB3 := Lib.hid (world_lt c3)
  have hb2 := HB.out
  have hb3 := HB3.out
  have hm1 : m1 ≤ 1048576 := by omega
  have hi0 : (0 : Int) ≤ (i : Int) := by omega
  have hi1 : (i : Int) < (n : Int) := by omega
  dsimp only at c1
  obtain ⟨v, hve⟩ : ∃ v, cmpS t f = v := ⟨_, rfl⟩
  have hb : b = decide (v ≥ 0) := by rw [hv, ht, ← hve, cmpS_neg]
  have HV := Lib.hid hve
  subst hb
  clear hv hve ht htl hsx hfx hrow hf h1 hr hl
  go_enter Tryz.func176, Tryz.ntmps176
  go_wp2_with fail
  (refine wp_region_below (by kernel_rfl) (by kernel_rfl) ?_; (repeat (first | go_big_quiet_skip | (refine quietV (v := ?_) (by rfl) rfl (fun w' hbw => ?_) ?_; rotate_left; ((try dsimp only at hbw); have hbc := (bcell hbw).1; have hbf := (bcell hbw).2; go_simp; first | done | with_reducible rfl | exact callsB (v := .int .i64 v) (by rw [← HV.out]; exact CompareShapes_i C1 B m1 k1 m d t f _ (HR.out.2.1.below hbw) (HF.out.2.1.below hbw) H1.out HF.out.1 (by omega) (by omega)) hbw); simp only [List.setIfInBounds_toArray, List.set_cons_zero, List.set_cons_succ]))); refine wpQuiet_nil ?_; intro wq hbq)
  go_wp2_with fail
  go_ret
  exact ⟨rfl, hbq⟩
set_option maxHeartbeats 1600000 in
theorem putSearch (b2 b3 : Nat) (A : Option Addr) (n c : Nat) (hs : List H) (F : List (List C)) (B : Option Addr) (m d : Nat) (f : List C) (w : World) (hr : RdF w A n hs F) (hf : CRow w (B, m, d) f)
    (c2 : w.cell? ⟨b2, 0, none⟩ = some (.slice A n c)) (c3 : w.cell? ⟨b3, 0, none⟩ = some (.slice B m d)) (hl : ∀ x ∈ F, x.length ≤ 1048576) (hm : m ≤ 1048576) (hn : n ≤ 1099511627776) (hi : IncG ltS F) :
    Calls Tryz.prog 175 #[.int .i64 (n : Int), .func (.func 176) #[] #[.pointer (some ⟨b2, 0, none⟩), .pointer (some ⟨b3, 0, none⟩)]] w (Ret w (.int .i64 (F.countP (fun x => ltS x f) : Nat))) := by
  have HL := Lib.hid hl
  have HI := Lib.hid hi
  have HR := Lib.hid hr
  have HF := Lib.hid hf
  have HN := Lib.hid hr.flen
  have HC2 := Lib.hid c2
  have HC3 := Lib.hid c3
  clear hl hi hr hf c2 c3
  go_enter Tryz.func175, Tryz.ntmps175
  go_wp2
  go_loopw [5, 6] (fun e5 e6 wr => ∃ (lo hi : Nat), e5 = .int .i64 lo ∧ e6 = .int .i64 hi ∧ lo ≤ hi ∧ hi ≤ n ∧ (∀ t, t < lo → ltS (F.getD t default) f = true) ∧ (∀ t, hi ≤ t → t < n → ltS (F.getD t default) f = false) ∧ Below w.heap.size w wr) (fun e5 e6 _ => (intOf e6).toNat - (intOf e5).toNat)
  case atStart => exact ⟨0, n, rfl, rfl, Nat.zero_le _, Nat.le_refl _, fun t h => absurd h (by omega), fun t h1 h2 => by omega, Below.refl _ _⟩
  case round =>
    obtain ⟨lo, hi, rfl, rfl, hlh, hin, hlow, hhigh, hb⟩ := hrel
    have HLO := Lib.hid hlow
    have HHI := Lib.hid hhigh
    clear hlow hhigh
    by_cases hlt : lo < hi
    · have hltI : (lo : Int) < (hi : Int) := by omega
      obtain ⟨k, hk⟩ : ∃ k, (lo + hi) / 2 = k := ⟨_, rfl⟩
      have hkI : ((lo : Int) + (hi : Int)) / 2 = (k : Int) := by rw [← hk]; simp
      have hk1 : lo ≤ k := by omega
      have hk2 : k < hi := by omega
      have HK := Lib.hid hk
      clear hk
      cases ht : ltS (F.getD k default) f with
      | true =>
        have HT := Lib.hid ht
        clear ht
        go_wp2_with fail
        refine (putTest b2 b3 A n c hs F B m d f k _ (HR.out.below hb) (HF.out.below hb) ((hb.cell (world_lt HC2.out)).trans HC2.out) ((hb.cell (world_lt HC3.out)).trans HC3.out) (by omega) HL.out hm false (by rw [HT.out]; rfl)).mono ?_
        rintro e w1 ⟨rfl, hb1⟩
        go_wp2_with fail
        refine ⟨⟨k + 1, hi, by go_num, rfl, by omega, hin, fun t h => ?_, HHI.out, bel_trans hb hb1⟩, by simp [intOf]; omega⟩
        cases he : ltS (F.getD t default) f with
        | true => rfl
        | false =>
          exfalso
          rcases Nat.lt_or_ge t k with h1 | h1
          · have := incG_get ltS_sto HI.out h1 (by rw [HN.out]; omega)
            rw [ltS_sto.trans this HT.out] at he
            cases he
          · obtain rfl : t = k := by omega
            rw [HT.out] at he
            cases he
      | false =>
        have HT := Lib.hid ht
        clear ht
        go_wp2_with fail
        refine (putTest b2 b3 A n c hs F B m d f k _ (HR.out.below hb) (HF.out.below hb) ((hb.cell (world_lt HC2.out)).trans HC2.out) ((hb.cell (world_lt HC3.out)).trans HC3.out) (by omega) HL.out hm true (by rw [HT.out]; rfl)).mono ?_
        rintro e w1 ⟨rfl, hb1⟩
        go_wp2_with fail
        refine ⟨⟨lo, k, rfl, rfl, hk1, by omega, HLO.out, fun t h1 h2 => ?_, bel_trans hb hb1⟩, by simp [intOf]; omega⟩
        cases he : ltS (F.getD t default) f with
        | false => rfl
        | true =>
          exfalso
          rcases Nat.lt_or_ge k t with h3 | h3
          · have := incG_get ltS_sto HI.out h3 (by rw [HN.out]; omega)
            have h4 := ltS_sto.trans this he
            rw [HT.out] at h4
            cases h4
          · obtain rfl : t = k := by omega
            rw [HT.out] at he
            cases he
    · obtain rfl : lo = hi := by omega
      have hltI : ¬ (lo : Int) < (lo : Int) := by omega
      have HV : Hid (F.countP (fun x => ltS x f) = lo) := countP_cut (by rw [HN.out]; exact hin)
        (fun t x h1 h2 => by have := HLO.out t h1; rwa [List.getD_eq_getElem?_getD, h2] at this)
        (fun t x h1 h2 => by have := HHI.out t h1 (by have := (List.getElem?_eq_some_iff.1 h2).1; rw [HN.out] at this; exact this); rwa [List.getD_eq_getElem?_getD, h2] at this)
      go_wp2
      go_ret
      exact ⟨by rw [HV.out]; rfl, hb⟩
end Go.Proofs.YtglilkneipfheaaGreat

/- A shape put into an ordered list, once: the program. -/
namespace Go.Proofs.YtglilkneipfheaaGreat
open Go.RowKit
set_option linter.unusedVariables false
attribute [local go_sem ↓] Go.wp_at_zero Go.wp_at_succ

theorem infoF : (Tryz.prog.info? 59).map (fun i => (i.zero, i.size, i.bytes)) = some (some (.slice none 0 0), 1, 24) := by kernel_rfl
section
variable (w : World) {ops : Array Oper} {rest : List Oper} {o : Oper} {a : Act} {Q : Exit → Act → World → Prop}
theorem app_F (hgd : o.guard = none) (s x : Operand) (ho : o.op = .call { callee := .builtin .append, args := #[s, x], argTypes := #[31, 31] })
    (base : Nat) (A : Option Addr) (n c : Nat) (l : List H) (hs : a.eval s = .slice A n c) (hown : w.ownsRow base 59 1 (.slice A n c) n (vS l))
    (A2 : Option Addr) (m c2 : Nat) (l2 : List H) (hx : a.eval x = .slice A2 m c2) (hr : Rd w A2 (vS l2)) (hl : l2.length = m) (hb : n + m ≤ 1099511627776) (hbase : base ≤ w.heap.size)
    (h : ∀ A' c' w', w'.ownsRow base 59 1 (.slice A' (n + m) c') (n + m) (vS (l ++ l2)) → w.grownBy w' (ob A) → (ob A' = ob A ∨ ob A' = some w.heap.size) → wpList Tryz.prog ops Q rest (a.put o.dst (.slice A' (n + m) c')) w') :
    wpList Tryz.prog ops Q (o :: rest) a w := by
  obtain ⟨i0, hi, hz0, hz1, hz2⟩ := info_parts infoF
  refine wpList_app w hgd s x _ ho base _ i0 _ 1 24 Tryz.underlying31 hi hz0 hz1 hz2 rfl (by omega) A n c _ hs hown A2 m c2 _ hx hr (by rw [vS_length, hl]; omega) (vS_one _) (by unfold maxLen; omega) (by omega) hbase ?_
  intro A' c' w' h1
  rw [← vS_append] at h1
  exact h A' c' w' h1
end
def offF (c k : Nat) : Nat := if c = k then 0 else k
theorem run_fromF (w : World) (g m c k : Nat) (hk : k ≤ m) : (Instr.slice 31 (.slice (some ⟨g, 0, none⟩) m c) (some (.int .i64 (k : Int))) none none).run Tryz.prog w = .ok (.slice (some ⟨g, offF c k, none⟩) (m - k) (c - k)) w := by
  have h1 : (0 : Int) ≤ (k : Int) := by omega
  have h2 : (k : Int) ≤ (m : Int) := by omega
  unfold offF
  by_cases hc : c = k
  · subst hc
    simp [go_sem, h2]
  · simp [go_sem, h2, hc]
/-- What lies behind place k moves on by one. -/
theorem run_shift (w : World) (base g n c k : Nat) (L : List H) (ho : w.ownsRow base 59 1 (.slice (some ⟨g, 0, none⟩) (n + 1) c) (n + 1) (vS L)) (hk : k ≤ n) (ty : TypeId) :
    ∃ w', (Builtin.copy_ #[31, 31] ty #[.slice (some ⟨g, offF c (k + 1), none⟩) (n + 1 - (k + 1)) (c - (k + 1)), .slice (some ⟨g, offF c k, none⟩) (n + 1 - k) (c - k)]).run Tryz.prog w = .ok (goInt ((n - k : Nat))) w' ∧
      w'.ownsRow base 59 1 (.slice (some ⟨g, 0, none⟩) (n + 1) c) (n + 1) (vS (L.take (k + 1) ++ (L.drop k).take (n - k))) ∧ w.grownBy w' (some g) := by
  have hlen : L.length = n + 1 := by have := own_len ho; rw [vS_length] at this; omega
  have hsz : (Tryz.prog.info? 59).map (·.size) = some 1 := by kernel_rfl
  by_cases hkn : k = n
  · subst hkn
    refine ⟨w, ?_, ?_, World.grownBy.refl _ _⟩
    · have := run_copy_none (P := Tryz.prog) w 31 31 ty 59 (some ⟨g, offF c (k + 1), none⟩) (some ⟨g, offF c k, none⟩) (k + 1 - (k + 1)) (c - (k + 1)) (k + 1 - k) (c - k) Tryz.underlying31 hsz (by simp)
      rw [this]
      simp
    · rw [Nat.sub_self, List.take_zero, List.append_nil, List.take_of_length_le (by omega)]
      exact ho
  · rcases ho.2 with ⟨hv, h0⟩ | ⟨g', cap, cur, hv, hbg, hg, hnc, hcm, hcs, ht⟩
    · omega
    · injection hv with hA hn hc
      injection hA with hA
      injection hA with hA1
      subst hA1 hc
      have hoff1 : offF c (k + 1) = k + 1 := by unfold offF; rw [if_neg (by omega)]
      have hoff2 : offF c k = k := by unfold offF; rw [if_neg (by omega)]
      have hcsl : (vS ((L.drop k).take (n - k))).length = n - k := by rw [vS_length, List.length_take, List.length_drop]; omega
      have hsrc : ∀ j v, (vS ((L.drop k).take (n - k)))[j]? = some v → w.cell? ((⟨g, k, none⟩ : Addr).add j) = some v := by
        intro j v hj
        have hjl : j < n - k := by rw [← hcsl]; exact (List.getElem?_eq_some_iff.1 hj).1
        have e : (⟨g, k, none⟩ : Addr).add j = ⟨g, k + j, none⟩ := by unfold Addr.add; split <;> simp_all
        rw [e]
        have hc := ho.cellAt (k + j) (by omega)
        rw [hc, ← hj]
        simp only [vS, List.getElem?_map, List.getElem?_take, List.getElem?_drop, if_pos hjl]
      have hr := run_copy_row (P := Tryz.prog) w 31 31 ty 59 g (k + 1) (n + 1 - (k + 1)) (c - (k + 1)) ⟨g, k, none⟩ (n + 1 - k) (c - k) cur 59 (vS ((L.drop k).take (n - k))) Tryz.underlying31 hsz hg
        (by rw [hcsl]; show n - k = min _ _; omega) hsrc (by rw [hcsl]; omega) (vS_one _)
      rw [hoff1, hoff2, hr, hcsl]
      refine ⟨_, rfl, ⟨?_, .inr ⟨g, c, _, rfl, hbg, setRow_heap w g cur _ _ _ hg, hnc, hcm, ?_, ?_⟩⟩, ⟨rfl, rfl, rfl, by simp [World.setRow], fun q hq hne => setRow_other w g q _ (fun e => hne (by rw [e]))⟩⟩
      · rw [vS_length, List.length_append, List.length_take, List.length_take, List.length_drop]; omega
      · simp only [List.size_toArray, List.length_append, List.length_take, List.length_drop, Array.length_toList]
        rw [hcsl]
        omega
      · have hcurl : cur.toList.length = c * 1 := by rw [Array.length_toList, hcs]
        have hk1 : cur.toList.take (k + 1) = vS (L.take (k + 1)) := by
          have h2 := congrArg (List.take (k + 1)) ht
          rw [List.take_take, Nat.min_eq_left (by omega)] at h2
          rw [h2]
          simp [vS]
        simp only [List.append_assoc]
        rw [hk1, vS_append]
        have hl1 : (vS (L.take (k + 1))).length = k + 1 := by rw [vS_length, List.length_take]; omega
        rw [← List.append_assoc, List.take_append_of_le_length (by rw [List.length_append, hl1, hcsl]; omega)]
        rw [List.take_of_length_le (by rw [List.length_append, hl1, hcsl]; omega)]
theorem wp_copyF {o : Oper} {a : Act} {w w' : World} {K : Act → World → Prop} {Q : Exit → Act → World → Prop} (d s : Operand) (dT sT : TypeId) (ho : o.op = .call { callee := .builtin .copy, args := #[d, s], argTypes := #[dT, sT] })
    {v1 v2 v : Value} (hd : a.eval d = v1) (hs : a.eval s = v2) (hrun : (Builtin.copy_ #[dT, sT] o.type #[v1, v2]).run Tryz.prog w = .ok v w') (hk : K (a.put o.dst v) w') : o.wp Tryz.prog a w K Q := by
  unfold Oper.wp
  simp [execOp, ho, resolve, invoke, builtin, hd, hs, hrun, Result.andThen]
  exact hk
theorem grown_comp2 {a w w' : World} {r r' : Option Nat} (h : a.grownBy w r) (h' : w.grownBy w' r') (hr : ∀ g, r' = some g → r = some g ∨ a.heap.size ≤ g) : a.grownBy w' r :=
  ⟨h'.os.trans h.os, h'.tape.trans h.tape, h'.output.trans h.output, Nat.le_trans h.size h'.size, fun k hk hne => (h'.block k (Nat.lt_of_lt_of_le hk h.size) (fun e => by
    rcases hr k e.symm with h1 | h1
    · exact hne h1.symm
    · omega)).trans (h.block k hk hne)⟩
theorem grown_of_below {w w' : World} (h : Below w.heap.size w w') (r : Option Nat) : w.grownBy w' r := ⟨h.os, h.tape, h.output, h.size, fun k hk _ => h.block k hk⟩
theorem grown_setC {a w : World} {r : Option Nat} (h : a.grownBy w r) {p : Addr} (hp : r = some p.block ∨ a.heap.size ≤ p.block) (u : Value) : a.grownBy (w.setCell p u) r :=
  ⟨h.os, h.tape, h.output, by simpa [World.setCell] using h.size, fun k hk hne => by
    rw [Below.heap_setCell w p u k (by
      rintro rfl
      rcases hp with h1 | h1
      · exact hne h1.symm
      · omega)]
    exact h.block k hk hne⟩
theorem ins_set {α : Type} (hs : List α) (z x : α) (n k : Nat) (hn : hs.length = n) (hk : k ≤ n) : (((hs ++ [z]).take (k + 1)) ++ ((hs ++ [z]).drop k).take (n - k)).set k x = hs.take k ++ [x] ++ hs.drop k := by
  have h1 : ((hs ++ [z]).drop k).take (n - k) = hs.drop k := by
    rw [List.drop_append_of_le_length (by omega), List.take_append_of_le_length (by rw [List.length_drop]; omega), List.take_of_length_le (by rw [List.length_drop]; omega)]
  have hkl : k < (hs ++ [z]).length := by simp; omega
  rw [h1, List.take_succ_eq_append_getElem hkl]
  have h2 : (hs ++ [z]).take k = hs.take k := List.take_append_of_le_length (by omega)
  rw [h2, List.append_assoc, List.set_append_right _ _ (by rw [List.length_take]; omega), List.length_take, Nat.min_eq_left (by omega), Nat.sub_self]
  simp
theorem ins_rows {α β : Type} {hs : List α} {F : List β} {k : Nat} (hl : hs.length = F.length) (hk : k ≤ F.length) {x0 : α} {f : β} (i : Nat) (x : α) (y : β) (h1 : (hs.take k ++ [x0] ++ hs.drop k)[i]? = some x) (h2 : (F.take k ++ [f] ++ F.drop k)[i]? = some y) :
    (∃ j : Nat, hs[j]? = some x ∧ F[j]? = some y) ∨ (x = x0 ∧ y = f) := by
  have e1 : (hs.take k).length = k := by rw [List.length_take]; omega
  have e2 : (F.take k).length = k := by rw [List.length_take]; omega
  rw [List.append_assoc] at h1 h2
  rcases Nat.lt_trichotomy i k with h | h | h
  · rw [List.getElem?_append_left (by omega), List.getElem?_take_of_lt h] at h1 h2
    exact .inl ⟨i, h1, h2⟩
  · subst h
    rw [List.getElem?_append_right (by omega), e1, Nat.sub_self] at h1
    rw [List.getElem?_append_right (by omega), e2, Nat.sub_self] at h2
    simp at h1 h2
    exact .inr ⟨h1.symm, h2.symm⟩
  · obtain ⟨j, rfl⟩ : ∃ j, i = k + 1 + j := ⟨i - (k + 1), by omega⟩
    rw [List.getElem?_append_right (by omega), e1, show k + 1 + j - k = j + 1 from by omega] at h1
    rw [List.getElem?_append_right (by omega), e2, show k + 1 + j - k = j + 1 from by omega] at h2
    simp only [List.singleton_append, List.getElem?_cons_succ, List.getElem?_drop] at h1 h2
    exact .inl ⟨_, h1, h2⟩
/-- The list with the shape put in. -/
def PutP (base : Nat) (w : World) (A : Option Addr) (F : List (List C)) (e : Ending) (w' : World) : Prop :=
  ∃ A' n' c' hs', e = .returned (.slice A' n' c') ∧ OwnF base w' A' n' c' hs' F ∧ w.grownBy w' (ob A) ∧ ∀ g, ob A' = some g → ob A = some g ∨ w.heap.size ≤ g
theorem putB_same {F : List (List C)} {f : List C} {k : Nat} (hk : F.countP (fun x => ltS x f) = k) (h1 : k < F.length) (h2 : F.getD k default = f) : putB ltS F f = F := by unfold putB; rw [hk, if_pos ⟨h1, h2⟩]
theorem putB_new {F : List (List C)} {f : List C} {k : Nat} (hk : F.countP (fun x => ltS x f) = k) (h1 : ¬ (k < F.length ∧ F.getD k default = f)) : putB ltS F f = F.take k ++ [f] ++ F.drop k := by unfold putB; rw [hk, if_neg h1]
set_option maxHeartbeats 3200000 in
theorem putShape_i (A : Option Addr) (n c : Nat) (hs : List H) (F : List (List C)) (B : Option Addr) (m d : Nat) (f : List C) (base : Nat) (w : World) (ho : OwnF base w A n c hs F) (hf : CRow w (B, m, d) f) (hi : IncG ltS F)
    (hl : ∀ x ∈ F, x.length ≤ 1048576) (hm : m ≤ 1048576) (hn : n ≤ 1073741824) (hbs : base ≤ w.heap.size) :
    Calls Tryz.prog 153 #[.slice A n c, .slice B m d] w (PutP base w A (putB ltS F f)) := by
  obtain ⟨k, hk⟩ : ∃ k, F.countP (fun x => ltS x f) = k := ⟨_, rfl⟩
  have hkn : k ≤ n := by rw [← hk, ← ho.flen]; exact List.countP_le_length
  have hAlt := own_lt ho.own
  have hB2 := (Blk.new w 31 #[.slice A n c]).alloc (.cells #[.slice B m d] 59)
  have hB3 : Blk ((w.alloc (.cells #[.slice A n c] 31)).alloc (.cells #[.slice B m d] 59)) (w.heap.size + 1) 59 #[.slice B m d] := by simpa using Blk.new (w.alloc (.cells #[.slice A n c] 31)) 59 #[.slice B m d]
  have hb0 : Below w.heap.size w ((w.alloc (.cells #[.slice A n c] 31)).alloc (.cells #[.slice B m d] 59)) := (by (repeat (first | with_reducible exact Below.refl _ _ | with_reducible assumption | with_reducible apply bel_alloc | with_reducible apply bel_drew | with_reducible apply bel_drewN | ((with_reducible refine bel_set ?_ ?_); rotate_left; (simp <;> omega)) | (with_reducible refine bel_trans ?_ (by with_reducible assumption)))))
  obtain ⟨W0, hW0⟩ : ∃ W0, (w.alloc (.cells #[.slice A n c] 31)).alloc (.cells #[.slice B m d] 59) = W0 := ⟨_, rfl⟩
  rw [hW0] at hB2 hB3 hb0
  have HS := putSearch w.heap.size (w.heap.size + 1) A n c hs F B m d f W0 (ho.rd.below hb0) (hf.below hb0) (by simpa using hB2.cell 0) (by simpa using hB3.cell 0) hl hm (by omega) hi
  rw [hk] at HS
  have HSE := Lib.hid HS
  have HO := Lib.hid ho
  have HF := Lib.hid hf
  have HK := Lib.hid hk
  have HL := Lib.hid hl
  have HB2 := Lib.hid hB2
  have HB3 := Lib.hid hB3
  have HW := Lib.hid hW0
  have HFL := Lib.hid ho.flen
  have HA := Lib.hid hAlt
  have hz0 := hb0.size
  clear HS ho hf hk hl hB2 hB3 hW0 hAlt hi
  go_enter Tryz.func153, Tryz.ntmps153
  go_wp2_with fail
  rw [HW.out]
  refine HSE.out.mono ?_
  rintro e w1 ⟨rfl, hb1⟩
  have hb01 := bel_trans hb0 hb1
  have HX2 := Lib.hid (HB2.out.below hb1)
  have HX3 := Lib.hid (HB3.out.below hb1)
  have c2 : w1.cell? ⟨w.heap.size, 0, none⟩ = some (.slice A n c) := by simpa using HX2.out.cell 0
  have c3 : w1.cell? ⟨w.heap.size + 1, 0, none⟩ = some (.slice B m d) := by simpa using HX3.out.cell 0
  have l2 := HX2.out.lt
  have l3 := HX3.out.lt
  have HO1 := Lib.hid (HO.out.below hb01)
  have HF1 := Lib.hid (HF.out.below hb01)
  by_cases hkk : k < n
  · obtain ⟨x, t, g, off, hsx, hfx, hAg, hg, d1, hrow⟩ := HO1.out.rd.at_ hkk
    have ht : F.getD k default = t := by rw [List.getD_eq_getElem?_getD, hfx]; rfl
    have htl := HL.out t (List.mem_of_getElem? hfx)
    obtain ⟨C1, m1, k1⟩ := x
    have h1 : t.length = m1 := hrow.1
    have H1 := Lib.hid h1
    have HR := Lib.hid hrow
    have hm1 : m1 ≤ 1048576 := by omega
    have hk0 : (0 : Int) ≤ (k : Int) := by omega
    have hkI : (k : Int) < (n : Int) := by omega
    dsimp only at d1
    by_cases htf : t = f
    · have HV := Lib.hid (putB_same HK.out (by rw [HFL.out]; exact hkk) (ht.trans htf))
      have HD : Hid (decide (t = f) = true) := decide_eq_true htf
      subst hAg
      clear ht htf hsx hfx hrow h1 htl
      go_wp2_with fail
      (refine wp_region_below (by kernel_rfl) (by kernel_rfl) ?_; (repeat (first | go_big_quiet_skip | (refine quietV (v := ?_) (by rfl) rfl (fun w' hbw => ?_) ?_; rotate_left; ((try dsimp only at hbw); have hbc := (bcell hbw).1; have hbf := (bcell hbw).2; go_simp; first | done | with_reducible rfl | exact callsBB (EqualShapes_i C1 B m1 k1 m d t f _ (HR.out.2.1.below hbw) (HF1.out.2.1.below hbw) H1.out HF1.out.1 (by omega) (by omega)) HD.out hbw); simp only [List.setIfInBounds_toArray, List.set_cons_zero, List.set_cons_succ]))); refine wpQuiet_nil ?_; intro wq hbq)
      have c2q : wq.cell? ⟨w.heap.size, 0, none⟩ = some (.slice (some ⟨g, off, none⟩) n c) := by simpa using (HX2.out.below hbq).cell 0
      have l2q := (HX2.out.below hbq).lt
      clear c2 c3 l2 l3
      go_wp2_with fail
      go_ret
      exact ⟨_, n, c, hs, rfl, by rw [HV.out]; exact HO1.out.below hbq, grown_of_below (bel_trans hb01 hbq) _, fun g e => .inl e⟩
    · have HV := Lib.hid (putB_new HK.out (fun h => htf (ht.symm.trans h.2)))
      have HD : Hid (decide (t = f) = false) := decide_eq_false htf
      have HAG := Lib.hid hAg
      rw [hAg] at c2
      have hkd : decide (k < n) = true := by simp [hkk]
      clear ht htf hsx hfx hrow h1 htl hAg
      go_wp2_with fail
      (refine wp_region_below (by kernel_rfl) (by kernel_rfl) ?_; (repeat (first | go_big_quiet_skip | (refine quietV (v := ?_) (by rfl) rfl (fun w' hbw => ?_) ?_; rotate_left; ((try dsimp only at hbw); have hbc := (bcell hbw).1; have hbf := (bcell hbw).2; go_simp; first | done | with_reducible rfl | exact callsBB (EqualShapes_i C1 B m1 k1 m d t f _ (HR.out.2.1.below hbw) (HF1.out.2.1.below hbw) H1.out HF1.out.1 (by omega) (by omega)) HD.out hbw); simp only [List.setIfInBounds_toArray, List.set_cons_zero, List.set_cons_succ]))); refine wpQuiet_nil ?_; intro wq hbq)
      clear d1 hkd
      rw [← HAG.out] at c2 ⊢
      have hb0q := bel_trans hb01 hbq
      have hz1 := hb0q.size
      have HX2q := Lib.hid (HX2.out.below hbq)
      have HX3q := Lib.hid (HX3.out.below hbq)
      have HOq := Lib.hid (HO1.out.below hbq)
      have c2q : wq.cell? ⟨w.heap.size, 0, none⟩ = some (.slice A n c) := by simpa using HX2q.out.cell 0
      have z2q := HX2q.out.frozen 0
      have l2q := HX2q.out.lt
      clear c2 c3 l2 l3
      go_wp2_with (at_builtin; go_must (refine app_F _ rfl _ _ rfl base _ _ _ hs rfl (HOq.out.own.alloc _) _ _ _ [(none, 0, 0)] rfl (rd_newS _ _ _) rfl (by omega) (by simp; omega) ?_); intro A3 c5 w3 ho3 hg3 hat3; have HO3 := Lib.hid ho3; have HG3 := Lib.hid hg3; have HAT := Lib.hid hat3; have hX3 := (HX2q.out.alloc (.cells #[.slice none 0 0] 59)).grown hg3 (fun e => by have := (HA.out _ e.symm).2; omega); have e2 : w3.cell? ⟨w.heap.size, 0, none⟩ = some (.slice A n c) := (by simpa using hX3.cell 0); have f2 := hX3.frozen 0; have l4 := hX3.lt; have HX4 := Lib.hid (hX3.set_ 0 (.slice A3 (n + 1) c5)); have HY4 := Lib.hid (((HX3q.out.alloc (.cells #[.slice none 0 0] 59)).grown hg3 (fun e => by have := (HA.out _ e.symm).2; omega)).far (p := ⟨w.heap.size, 0, none⟩) (by simp) (.slice A3 (n + 1) c5)); clear hX3 ho3 hg3 hat3)
      obtain ⟨g3, hA3, hbg3, hg3l⟩ := own_at HO3.out (by omega)
      subst hA3
      have hg3n : g3 ≠ w.heap.size ∧ g3 ≠ w.heap.size + 1 := by
        rcases HAT.out with h | h
        · have := (HA.out g3 h.symm).2; omega
        · simp only [ob, Option.map_some, Option.some.injEq, World.size_alloc] at h; omega
      obtain ⟨hg3n, hg3m⟩ := hg3n
      have HO4 := Lib.hid (own_set HO3.out (p := ⟨w.heap.size, 0, none⟩) (fun g e => by simp only [ob, Option.map_some, Option.some.injEq] at e; subst e; exact hg3n) (.slice (some ⟨g3, 0, none⟩) (n + 1) c5))
      have HG4 : Hid (w.grownBy (w3.setCell ⟨w.heap.size, 0, none⟩ (.slice (some ⟨g3, 0, none⟩) (n + 1) c5)) (ob A)) :=
        grown_setC (grown_comp2 (grown_of_below (bel_alloc hb0q _) (ob A)) HG3.out (fun g h => .inl h)) (.inr (Nat.le_refl _)) _
      have HR4 : Hid (∀ x t, CRow wq x t → CRow (w3.setCell ⟨w.heap.size, 0, none⟩ (.slice (some ⟨g3, 0, none⟩) (n + 1) c5)) x t) := fun x t h =>
        ((h.below (bel_alloc (Below.refl _ _) _)).grown HG3.out (fun g e r => (h.apart HOq.out.own) g e r)).grown (grown_set (World.grownBy.refl _ (some w.heap.size)) rfl _) (fun g e r => by
          injection r with r
          obtain ⟨cur, z, h1⟩ := h.2.2 g e
          have h2 := HX2q.out
          unfold Blk at h2
          rw [r, h1] at h2
          injection h2 with h2
          injection h2 with _ h3
          exact absurd h3 (by decide))
      obtain ⟨w4, hw4⟩ : ∃ w4, w3.setCell ⟨w.heap.size, 0, none⟩ (.slice (some ⟨g3, 0, none⟩) (n + 1) c5) = w4 := ⟨_, rfl⟩
      rw [hw4] at HX4 HY4 HO4 HG4 HR4 ⊢
      have d2 : w4.cell? ⟨w.heap.size, 0, none⟩ = some (.slice (some ⟨g3, 0, none⟩) (n + 1) c5) := by simpa using HX4.out.cell 0
      have l6 := HX4.out.lt
      have hk0 : (0 : Int) ≤ (k : Int) := by omega
      obtain ⟨k1, hk1⟩ : ∃ k1 : Nat, k + 1 = k1 := ⟨_, rfl⟩
      have hk1I : (k : Int) + 1 = (k1 : Int) := by omega
      have hk1w : IntKind.i64.wrap (k1 : Int) = (k1 : Int) := Go.IntWalk.i64_in _ (by omega)
      have hs1 : ∀ w', (Instr.slice 31 (.slice (some ⟨g3, 0, none⟩) (n + 1) c5) (some (.int .i64 (k1 : Int))) none none).run Tryz.prog w' = .ok (.slice (some ⟨g3, offF c5 k1, none⟩) (n + 1 - k1) (c5 - k1)) w' := fun w' => run_fromF w' g3 (n + 1) c5 k1 (by omega)
      have hs2 : ∀ w', (Instr.slice 31 (.slice (some ⟨g3, 0, none⟩) (n + 1) c5) (some (.int .i64 (k : Int))) none none).run Tryz.prog w' = .ok (.slice (some ⟨g3, offF c5 k, none⟩) (n + 1 - k) (c5 - k)) w' := fun w' => run_fromF w' g3 (n + 1) c5 k (by omega)
      have HK1 := Lib.hid hk1
      clear hk1 hw4 e2 f2 l4
      go_wp2_with fail
      (refine wp_region_tailN (C := Gr w4 (some ⟨g3, 0, none⟩)) 7 (by kernel_rfl) (by kernel_rfl) (Gr.drawn _ _) (fun _ _ h k => h.ext k) ?_; simp only [List.take_succ_cons, List.take_zero, List.drop_succ_cons, List.drop_zero]; (repeat (first | (refine headSkip (by rfl) rfl ?_; simp only [List.setIfInBounds_toArray, List.set_cons_zero, List.set_cons_succ]) | (refine headV (v := ?_) (by rfl) rfl (fun w' hcw => ?_) ?_; rotate_left; ((try dsimp only at hcw); have hbc := hcw.cells; go_simp; first | done | with_reducible rfl | (have hcc := hcw.cell l6 (by simp [ob]; exact fun e => hg3n e.symm) 0; go_simp; first | done | with_reducible rfl)); simp only [List.setIfInBounds_toArray, List.set_cons_zero, List.set_cons_succ]))); unfold wpHead)
      refine tailK (by rfl) (fun u5 hc5 he5 K hK => ?_)
      obtain ⟨w5, hrun, ho5, hg5⟩ := run_shift u5 base g3 n c5 k (hs ++ [(none, 0, 0)]) (own_keep HO4.out he5) hkn 3
      rw [HK1.out] at hrun
      refine wp_copyF _ _ _ _ rfl rfl rfl hrun ?_
      refine hK _ _ (Gr.trans hc5 hg5) ?_
      clear hK K hrun
      simp only [Act.put, List.setIfInBounds_toArray, List.set_cons_zero, List.set_cons_succ]
      (refine fun w6 hc6 he6 => NoPanic.normal ?_)
      have HO6 := Lib.hid (own_keep ho5 he6)
      have HG6 : Hid (w4.grownBy w6 (some g3)) := hc6
      have HX6 := Lib.hid (HX4.out.grown HG6.out (fun e => by injection e with e; exact hg3n e.symm))
      have HY6 := Lib.hid (HY4.out.grown HG6.out (fun e => by injection e with e; exact hg3m e.symm))
      have b2 : w6.cell? ⟨w.heap.size, 0, none⟩ = some (.slice (some ⟨g3, 0, none⟩) (n + 1) c5) := by simpa using HX6.out.cell 0
      have b3 : w6.cell? ⟨w.heap.size + 1, 0, none⟩ = some (.slice B m d) := by simpa using HY6.out.cell 0
      have l7 := HX6.out.lt
      have l8 := HY6.out.lt
      have hck := HO6.out.cellAt k (by omega)
      have hkl : k < (vS (List.take (k + 1) (hs ++ [(none, 0, 0)]) ++ List.take (n - k) (List.drop k (hs ++ [(none, 0, 0)])))).length := by
        have := own_len HO6.out; omega
      rw [List.getElem?_eq_getElem hkl] at hck
      generalize (vS (List.take (k + 1) (hs ++ [(none, 0, 0)]) ++ List.take (n - k) (List.drop k (hs ++ [(none, 0, 0)]))))[k] = z at hck
      have hfk := HO6.out.frozenAt k
      have hg6l := own_lt HO6.out g3 rfl
      have hst := (HO6.out.stored k (.slice B m d)).1
      rw [show (vS (List.take (k + 1) (hs ++ [(none, 0, 0)]) ++ List.take (n - k) (List.drop k (hs ++ [(none, 0, 0)])))).set k (.slice B m d) = vS (hs.take k ++ [(B, m, d)] ++ hs.drop k) from by rw [← ins_set hs (none, 0, 0) (B, m, d) n k HO.out.hlen hkn]; simp [vS, List.map_set, hd]] at hst
      have HST := Lib.hid hst
      obtain ⟨hg6a, hg6b⟩ := hg6l
      have hkI2 : (k : Int) < (n : Int) + 1 := by omega
      have HRW : Hid (∀ x t, CRow wq x t → CRow (w6.setCell ⟨g3, k, none⟩ (.slice B m d)) x t) := fun x t h => by
        have h4 := HR4.out x t h
        have ne := h4.apart HO4.out
        exact (h4.grown HG6.out (fun g e r => ne g e r)).grown (grown_set (World.grownBy.refl _ (some g3)) rfl _) (fun g e r => ne g e r)
      have HGW : Hid (w.grownBy (w6.setCell ⟨g3, k, none⟩ (.slice B m d)) (ob A)) := by
        have hh : ob A = some g3 ∨ w.heap.size ≤ g3 := by
          rcases HAT.out with h | h
          · exact .inl h.symm
          · simp only [ob, Option.map_some, Option.some.injEq, World.size_alloc] at h; right; omega
        exact grown_setC (grown_comp2 HG4.out HG6.out (fun g h => by injection h with h; subst h; exact hh)) hh _
      clear hst hc5 he5 ho5 hg5 hc6 he6 d2 l6 hs1 hs2
      go_wp2_with fail
      go_ret
      refine ⟨some ⟨g3, 0, none⟩, n + 1, c5, hs.take k ++ [(B, m, d)] ++ hs.drop k, rfl, ⟨HST.out, ?_, ?_⟩, HGW.out, ?_⟩
      · rw [HV.out]; simp only [List.length_append, List.length_take, List.length_drop, List.length_cons, List.length_nil, HFL.out]; omega
      · intro i x t h1 h2
        rw [HV.out] at h2
        rcases ins_rows (by rw [HO.out.hlen, HFL.out]) (by rw [HFL.out]; exact hkn) i x t h1 h2 with ⟨j, h3, h4⟩ | ⟨h3, h4⟩
        · exact HRW.out x t (HOq.out.row j x t h3 h4)
        · subst h3 h4
          exact HRW.out _ _ (HF1.out.below hbq)
      · intro g e
        rcases HAT.out with h | h
        · exact .inl (h ▸ e)
        · rw [h] at e
          simp only [World.size_alloc, Option.some.injEq] at e
          right; omega
  · have HV := Lib.hid (putB_new HK.out (fun h => hkk (by have := h.1; rwa [HFL.out] at this)))
    have hkd : decide (k < n) = false := by simp; omega
    have hkI : ¬ (k : Int) < (n : Int) := by omega
    go_wp2_with fail
    (refine wp_region_below (by kernel_rfl) (by kernel_rfl) ?_; (repeat (first | go_big_quiet_skip | (refine quietV (v := ?_) (by rfl) rfl (fun w' hbw => ?_) ?_; rotate_left; ((try dsimp only at hbw); have hbc := (bcell hbw).1; have hbf := (bcell hbw).2; go_simp; first | done | with_reducible rfl | fail); simp only [List.setIfInBounds_toArray, List.set_cons_zero, List.set_cons_succ]))); refine wpQuiet_nil ?_; intro wq hbq)
    clear hkd hkI hkk
    have hb0q := bel_trans hb01 hbq
    have hz1 := hb0q.size
    have HX2q := Lib.hid (HX2.out.below hbq)
    have HX3q := Lib.hid (HX3.out.below hbq)
    have HOq := Lib.hid (HO1.out.below hbq)
    have c2q : wq.cell? ⟨w.heap.size, 0, none⟩ = some (.slice A n c) := by simpa using HX2q.out.cell 0
    have z2q := HX2q.out.frozen 0
    have l2q := HX2q.out.lt
    clear c2 c3 l2 l3
    go_wp2_with (at_builtin; go_must (refine app_F _ rfl _ _ rfl base _ _ _ hs rfl (HOq.out.own.alloc _) _ _ _ [(none, 0, 0)] rfl (rd_newS _ _ _) rfl (by omega) (by simp; omega) ?_); intro A3 c5 w3 ho3 hg3 hat3; have HO3 := Lib.hid ho3; have HG3 := Lib.hid hg3; have HAT := Lib.hid hat3; have hX3 := (HX2q.out.alloc (.cells #[.slice none 0 0] 59)).grown hg3 (fun e => by have := (HA.out _ e.symm).2; omega); have e2 : w3.cell? ⟨w.heap.size, 0, none⟩ = some (.slice A n c) := (by simpa using hX3.cell 0); have f2 := hX3.frozen 0; have l4 := hX3.lt; have HX4 := Lib.hid (hX3.set_ 0 (.slice A3 (n + 1) c5)); have HY4 := Lib.hid (((HX3q.out.alloc (.cells #[.slice none 0 0] 59)).grown hg3 (fun e => by have := (HA.out _ e.symm).2; omega)).far (p := ⟨w.heap.size, 0, none⟩) (by simp) (.slice A3 (n + 1) c5)); clear hX3 ho3 hg3 hat3)
    obtain ⟨g3, hA3, hbg3, hg3l⟩ := own_at HO3.out (by omega)
    subst hA3
    have hg3n : g3 ≠ w.heap.size ∧ g3 ≠ w.heap.size + 1 := by
      rcases HAT.out with h | h
      · have := (HA.out g3 h.symm).2; omega
      · simp only [ob, Option.map_some, Option.some.injEq, World.size_alloc] at h; omega
    obtain ⟨hg3n, hg3m⟩ := hg3n
    have HO4 := Lib.hid (own_set HO3.out (p := ⟨w.heap.size, 0, none⟩) (fun g e => by simp only [ob, Option.map_some, Option.some.injEq] at e; subst e; exact hg3n) (.slice (some ⟨g3, 0, none⟩) (n + 1) c5))
    have HG4 : Hid (w.grownBy (w3.setCell ⟨w.heap.size, 0, none⟩ (.slice (some ⟨g3, 0, none⟩) (n + 1) c5)) (ob A)) :=
      grown_setC (grown_comp2 (grown_of_below (bel_alloc hb0q _) (ob A)) HG3.out (fun g h => .inl h)) (.inr (Nat.le_refl _)) _
    have HR4 : Hid (∀ x t, CRow wq x t → CRow (w3.setCell ⟨w.heap.size, 0, none⟩ (.slice (some ⟨g3, 0, none⟩) (n + 1) c5)) x t) := fun x t h =>
      ((h.below (bel_alloc (Below.refl _ _) _)).grown HG3.out (fun g e r => (h.apart HOq.out.own) g e r)).grown (grown_set (World.grownBy.refl _ (some w.heap.size)) rfl _) (fun g e r => by
        injection r with r
        obtain ⟨cur, z, h1⟩ := h.2.2 g e
        have h2 := HX2q.out
        unfold Blk at h2
        rw [r, h1] at h2
        injection h2 with h2
        injection h2 with _ h3
        exact absurd h3 (by decide))
    obtain ⟨w4, hw4⟩ : ∃ w4, w3.setCell ⟨w.heap.size, 0, none⟩ (.slice (some ⟨g3, 0, none⟩) (n + 1) c5) = w4 := ⟨_, rfl⟩
    rw [hw4] at HX4 HY4 HO4 HG4 HR4 ⊢
    have d2 : w4.cell? ⟨w.heap.size, 0, none⟩ = some (.slice (some ⟨g3, 0, none⟩) (n + 1) c5) := by simpa using HX4.out.cell 0
    have l6 := HX4.out.lt
    have hk0 : (0 : Int) ≤ (k : Int) := by omega
    obtain ⟨k1, hk1⟩ : ∃ k1 : Nat, k + 1 = k1 := ⟨_, rfl⟩
    have hk1I : (k : Int) + 1 = (k1 : Int) := by omega
    have hk1w : IntKind.i64.wrap (k1 : Int) = (k1 : Int) := Go.IntWalk.i64_in _ (by omega)
    have hs1 : ∀ w', (Instr.slice 31 (.slice (some ⟨g3, 0, none⟩) (n + 1) c5) (some (.int .i64 (k1 : Int))) none none).run Tryz.prog w' = .ok (.slice (some ⟨g3, offF c5 k1, none⟩) (n + 1 - k1) (c5 - k1)) w' := fun w' => run_fromF w' g3 (n + 1) c5 k1 (by omega)
    have hs2 : ∀ w', (Instr.slice 31 (.slice (some ⟨g3, 0, none⟩) (n + 1) c5) (some (.int .i64 (k : Int))) none none).run Tryz.prog w' = .ok (.slice (some ⟨g3, offF c5 k, none⟩) (n + 1 - k) (c5 - k)) w' := fun w' => run_fromF w' g3 (n + 1) c5 k (by omega)
    have HK1 := Lib.hid hk1
    clear hk1 hw4 e2 f2 l4
    go_wp2_with fail
    (refine wp_region_tailN (C := Gr w4 (some ⟨g3, 0, none⟩)) 7 (by kernel_rfl) (by kernel_rfl) (Gr.drawn _ _) (fun _ _ h k => h.ext k) ?_; simp only [List.take_succ_cons, List.take_zero, List.drop_succ_cons, List.drop_zero]; (repeat (first | (refine headSkip (by rfl) rfl ?_; simp only [List.setIfInBounds_toArray, List.set_cons_zero, List.set_cons_succ]) | (refine headV (v := ?_) (by rfl) rfl (fun w' hcw => ?_) ?_; rotate_left; ((try dsimp only at hcw); have hbc := hcw.cells; go_simp; first | done | with_reducible rfl | (have hcc := hcw.cell l6 (by simp [ob]; exact fun e => hg3n e.symm) 0; go_simp; first | done | with_reducible rfl)); simp only [List.setIfInBounds_toArray, List.set_cons_zero, List.set_cons_succ]))); unfold wpHead)
    refine tailK (by rfl) (fun u5 hc5 he5 K hK => ?_)
    obtain ⟨w5, hrun, ho5, hg5⟩ := run_shift u5 base g3 n c5 k (hs ++ [(none, 0, 0)]) (own_keep HO4.out he5) hkn 3
    rw [HK1.out] at hrun
    refine wp_copyF _ _ _ _ rfl rfl rfl hrun ?_
    refine hK _ _ (Gr.trans hc5 hg5) ?_
    clear hK K hrun
    simp only [Act.put, List.setIfInBounds_toArray, List.set_cons_zero, List.set_cons_succ]
    (refine fun w6 hc6 he6 => NoPanic.normal ?_)
    have HO6 := Lib.hid (own_keep ho5 he6)
    have HG6 : Hid (w4.grownBy w6 (some g3)) := hc6
    have HX6 := Lib.hid (HX4.out.grown HG6.out (fun e => by injection e with e; exact hg3n e.symm))
    have HY6 := Lib.hid (HY4.out.grown HG6.out (fun e => by injection e with e; exact hg3m e.symm))
    have b2 : w6.cell? ⟨w.heap.size, 0, none⟩ = some (.slice (some ⟨g3, 0, none⟩) (n + 1) c5) := by simpa using HX6.out.cell 0
    have b3 : w6.cell? ⟨w.heap.size + 1, 0, none⟩ = some (.slice B m d) := by simpa using HY6.out.cell 0
    have l7 := HX6.out.lt
    have l8 := HY6.out.lt
    have hck := HO6.out.cellAt k (by omega)
    have hkl : k < (vS (List.take (k + 1) (hs ++ [(none, 0, 0)]) ++ List.take (n - k) (List.drop k (hs ++ [(none, 0, 0)])))).length := by
      have := own_len HO6.out; omega
    rw [List.getElem?_eq_getElem hkl] at hck
    generalize (vS (List.take (k + 1) (hs ++ [(none, 0, 0)]) ++ List.take (n - k) (List.drop k (hs ++ [(none, 0, 0)]))))[k] = z at hck
    have hfk := HO6.out.frozenAt k
    have hg6l := own_lt HO6.out g3 rfl
    have hst := (HO6.out.stored k (.slice B m d)).1
    rw [show (vS (List.take (k + 1) (hs ++ [(none, 0, 0)]) ++ List.take (n - k) (List.drop k (hs ++ [(none, 0, 0)])))).set k (.slice B m d) = vS (hs.take k ++ [(B, m, d)] ++ hs.drop k) from by rw [← ins_set hs (none, 0, 0) (B, m, d) n k HO.out.hlen hkn]; simp [vS, List.map_set, hd]] at hst
    have HST := Lib.hid hst
    obtain ⟨hg6a, hg6b⟩ := hg6l
    have hkI2 : (k : Int) < (n : Int) + 1 := by omega
    have HRW : Hid (∀ x t, CRow wq x t → CRow (w6.setCell ⟨g3, k, none⟩ (.slice B m d)) x t) := fun x t h => by
      have h4 := HR4.out x t h
      have ne := h4.apart HO4.out
      exact (h4.grown HG6.out (fun g e r => ne g e r)).grown (grown_set (World.grownBy.refl _ (some g3)) rfl _) (fun g e r => ne g e r)
    have HGW : Hid (w.grownBy (w6.setCell ⟨g3, k, none⟩ (.slice B m d)) (ob A)) := by
      have hh : ob A = some g3 ∨ w.heap.size ≤ g3 := by
        rcases HAT.out with h | h
        · exact .inl h.symm
        · simp only [ob, Option.map_some, Option.some.injEq, World.size_alloc] at h; right; omega
      exact grown_setC (grown_comp2 HG4.out HG6.out (fun g h => by injection h with h; subst h; exact hh)) hh _
    clear hst hc5 he5 ho5 hg5 hc6 he6 d2 l6 hs1 hs2
    go_wp2_with fail
    go_ret
    refine ⟨some ⟨g3, 0, none⟩, n + 1, c5, hs.take k ++ [(B, m, d)] ++ hs.drop k, rfl, ⟨HST.out, ?_, ?_⟩, HGW.out, ?_⟩
    · rw [HV.out]; simp only [List.length_append, List.length_take, List.length_drop, List.length_cons, List.length_nil, HFL.out]; omega
    · intro i x t h1 h2
      rw [HV.out] at h2
      rcases ins_rows (by rw [HO.out.hlen, HFL.out]) (by rw [HFL.out]; exact hkn) i x t h1 h2 with ⟨j, h3, h4⟩ | ⟨h3, h4⟩
      · exact HRW.out x t (HOq.out.row j x t h3 h4)
      · subst h3 h4
        exact HRW.out _ _ (HF1.out.below hbq)
    · intro g e
      rcases HAT.out with h | h
      · exact .inl (h ▸ e)
      · rw [h] at e
        simp only [World.size_alloc, Option.some.injEq] at e
        right; omega
end Go.Proofs.YtglilkneipfheaaGreat

/- Steps of a region that draws its order, with the rest named. -/
namespace Go.Proofs.YtglilkneipfheaaGreat
open Go.RowKit
set_option linter.unusedVariables false
section
variable {P : Program} {ops : Array Oper} {md : Region.Mode} {C : World → Prop} {Q : Exit → Act → World → Prop}
theorem rgK_one {f i : Nat} {o : Oper} {listed : Array Bool} {a : Act} {w : World} (hr : Region.ready md ops listed = [i]) (hi : ops[i]? = some o) (hg : o.guard = none)
    (h : ∀ w', C w' → Ext w w' → ∀ K : Act → World → Prop, (∀ a' w'', C w'' → wpRg P md ops C Q f (listed.setIfInBounds i true) a' w'' → K a' w'') → o.wp P a w' K Q) : wpRg P md ops C Q (f + 1) listed a w :=
  rg_one hr hi hg fun w' hc he => h w' hc he _ fun _ _ h1 h2 => ⟨h1, h2⟩
theorem rgK_two {f i k : Nat} {o o2 : Oper} {listed : Array Bool} {a : Act} {w : World} (hr : Region.ready md ops listed = [i, k]) (hi : ops[i]? = some o) (hg : o.guard = none) (hk : ops[k]? = some o2) (hg2 : o2.guard = none)
    (h : ∀ w', C w' → Ext w w' → ∀ K : Act → World → Prop, (∀ a' w'', C w'' → wpRg P md ops C Q f (listed.setIfInBounds i true) a' w'' → K a' w'') → o.wp P a w' K Q)
    (h2 : ∀ w', C w' → Ext w w' → ∀ K : Act → World → Prop, (∀ a' w'', C w'' → wpRg P md ops C Q f (listed.setIfInBounds k true) a' w'' → K a' w'') → o2.wp P a w' K Q) : wpRg P md ops C Q (f + 1) listed a w :=
  rg_two hr hi hg hk hg2 (fun w' hc he => h w' hc he _ fun _ _ h1 h2 => ⟨h1, h2⟩) (fun w' hc he => h2 w' hc he _ fun _ _ h1 h2 => ⟨h1, h2⟩)
/-- An operation whose guard does not hold is taken first. -/
theorem rgS {i d : Nat} {oi : Oper} {f : Nat} {listed : Array Bool} {ts : Array Value} {ds : List Deferred} {w w0 : World} (hi : ops[i]? = some oi) (hd : oi.dst = some d)
    (hs : Region.noSelect ops = true) (hf : Region.free .any ops listed i = true) (hr : (Region.ready .any ops listed).contains i = true) (hw : Region.wanted oi (yielded ops ts) = false)
    (h : wpRg P .any ops (ExC w0) (NoPanic Q) f (listed.setIfInBounds i true) { tmps := ts.setIfInBounds d undef, defers := ds } w) : wpRg P .any ops (ExC w0) (NoPanic Q) (f + 1) listed { tmps := ts, defers := ds } w :=
  wpRg_first (v := undef) (fun _ _ h k => h.ext k) hi (Region.noSelect_spec hs) (fun _ _ _ h => h) f listed _ w (Region.free_spec hi hf) (by simpa using hr) (.inr ⟨hw, rfl⟩) (by rw [hd]; exact h)
end
end Go.Proofs.YtglilkneipfheaaGreat

/- Cells and shapes turned, the orientations of a shape: the program. -/
namespace Go.Proofs.YtglilkneipfheaaGreat
open Go.RowKit
set_option linter.unusedVariables false
attribute [local go_sem ↓] Go.wp_at_zero Go.wp_at_succ

set_option maxHeartbeats 1600000 in
theorem carry_i (x y : Int) (m : Nat) (w : World) (hq : in7 1000 (x, y)) (hm : m < 8) :
    Calls Tryz.prog 179 #[.agg #[.int .i64 x, .int .i64 y], .int .i64 (m : Int)] w (Ret w (.agg #[.int .i64 (motC m (x, y)).1, .int .i64 (motC m (x, y)).2])) := by
  obtain ⟨r, hr⟩ : ∃ r, m % 4 = r := ⟨_, rfl⟩
  have hr4 : r < 4 := by omega
  have hmr : (m : Int) % 4 = (r : Int) := by omega
  have hm0 : (0 : Int) ≤ (m : Int) := by omega
  have hm7 : (m : Int) ≤ 7 := by omega
  obtain ⟨⟨h1, h2⟩, h3, h4⟩ := id hq
  simp only at h1 h2 h3 h4
  have HOK := Lib.hid (in7_flip hq m)
  have HC : Hid (motC m (x, y) = rotC r (flipC m (x, y))) := by show motC m (x, y) = _; unfold motC; rw [hr]
  have ex : IntKind.i64.wrap (-x) = -x := Go.IntWalk.i64_in _ (by omega)
  clear hr hq
  by_cases h4m : 4 ≤ m
  · have HST : Hid (rotC 0 (flipC m (x, y)) = (-x, y)) := by show flipC m (x, y) = _; unfold flipC; rw [if_pos h4m]
    have h4i : (m : Int) ≥ 4 := by omega
    go_enter Tryz.func179, Tryz.ntmps179
    go_wp2
    go_loopw [13] (fun e13 wr => ∃ (j : Nat) (x' y' : Int), j ≤ r ∧ e13 = .int .i64 j ∧ rotC j (flipC m (x, y)) = (x', y') ∧ Blk wr w.heap.size 94 #[.int .i64 x', .int .i64 y'] ∧ Blk wr (w.heap.size + 1) 94 #[.int .i64 0, .int .i64 0] ∧ Below w.heap.size w wr) (fun e13 _ => r - (intOf e13).toNat)
    case atStart =>
      have hb1 : Blk ((w.alloc (.cells #[.int .i64 (-x), .int .i64 y] 94)).alloc (.cells #[.int .i64 0, .int .i64 0] 94)) w.heap.size 94 #[.int .i64 (-x), .int .i64 y] := (Blk.new w 94 #[.int .i64 (-x), .int .i64 y]).alloc _
      have hb2 : Blk ((w.alloc (.cells #[.int .i64 (-x), .int .i64 y] 94)).alloc (.cells #[.int .i64 0, .int .i64 0] 94)) (w.heap.size + 1) 94 #[.int .i64 0, .int .i64 0] := by
        have h := Blk.new (w.alloc (.cells #[.int .i64 (-x), .int .i64 y] 94)) 94 #[.int .i64 0, .int .i64 0]
        rw [show (w.alloc (.cells #[.int .i64 (-x), .int .i64 y] 94)).heap.size = w.heap.size + 1 from by simp] at h
        exact h
      exact ⟨0, (-x), y, Nat.zero_le _, rfl, HST.out, hb1, hb2, (by (repeat (first | with_reducible exact Below.refl _ _ | with_reducible assumption | with_reducible apply bel_alloc | with_reducible apply bel_drew | with_reducible apply bel_drewN | ((with_reducible refine bel_set ?_ ?_); rotate_left; (simp <;> omega)) | (with_reducible refine bel_trans ?_ (by with_reducible assumption)))))⟩
    case round =>
      obtain ⟨j, x', y', hj, rfl, hrot, hB, hB2, hb⟩ := hrel
      have ho : in7 1000 (x', y') := by rw [← hrot]; exact in7_rot HOK.out j
      obtain ⟨⟨k1, k2⟩, k3, k4⟩ := ho
      simp only at k1 k2 k3 k4
      have en : IntKind.i64.wrap (-y') = -y' := Go.IntWalk.i64_in _ (by omega)
      have c0 : wr.cell? ⟨w.heap.size, 0, none⟩ = some (.int .i64 x') := by simpa using hB.cell 0
      have c1 : wr.cell? ⟨w.heap.size, 1, none⟩ = some (.int .i64 y') := by simpa using hB.cell 1
      have f0 := hB.frozen 0
      have f1 := hB.frozen 1
      have d0 : wr.cell? ⟨w.heap.size + 1, 0, none⟩ = some (.int .i64 0) := by simpa using hB2.cell 0
      have d1 : wr.cell? ⟨w.heap.size + 1, 1, none⟩ = some (.int .i64 0) := by simpa using hB2.cell 1
      have fd0 := hB2.frozen 0
      have fd1 := hB2.frozen 1
      by_cases hlt : j < r
      · have hj1 : (j : Int) < (r : Int) := by omega
        have HR : Hid (rotC (j + 1) (flipC m (x, y)) = (-y', x')) := by show (-(rotC j _).2, (rotC j _).1) = _; rw [hrot]
        have hS : Blk ((wr.setCell ⟨w.heap.size, 0, none⟩ (.int .i64 (-y'))).setCell ⟨w.heap.size, 1, none⟩ (.int .i64 x')) w.heap.size 94 #[.int .i64 (-y'), .int .i64 x'] := by simpa using (hB.set_ 0 (.int .i64 (-y'))).set_ 1 (.int .i64 x')
        have hS2 : Blk ((wr.setCell ⟨w.heap.size, 0, none⟩ (.int .i64 (-y'))).setCell ⟨w.heap.size, 1, none⟩ (.int .i64 x')) (w.heap.size + 1) 94 #[.int .i64 0, .int .i64 0] := (hB2.far (by simp) _).far (by simp) _
        have HS := Lib.hid hS
        have HS2 := Lib.hid hS2
        clear hrot hB hB2 hS hS2
        go_wp2
        exact ⟨⟨j + 1, -y', x', by omega, by go_num, HR.out, HS.out, HS2.out, (by (repeat (first | with_reducible exact Below.refl _ _ | with_reducible assumption | with_reducible apply bel_alloc | with_reducible apply bel_drew | with_reducible apply bel_drewN | ((with_reducible refine bel_set ?_ ?_); rotate_left; (simp <;> omega)) | (with_reducible refine bel_trans ?_ (by with_reducible assumption)))))⟩, by simp [intOf]; omega⟩
      · have hjr : j = r := by omega
        subst hjr
        have HV : Hid (motC m (x, y) = (x', y')) := by show motC m (x, y) = _; rw [HC.out, hrot]
        have hj1 : ¬ (j : Int) < (j : Int) := by omega
        clear hrot hB hB2
        go_wp2
        exact bodyPost_ret (v := .agg #[.int .i64 x', .int .i64 y']) (by simp [results, Tryz.results179, go_sem, d0, d1]) rfl ⟨by rw [HV.out], (by (repeat (first | with_reducible exact Below.refl _ _ | with_reducible assumption | with_reducible apply bel_alloc | with_reducible apply bel_drew | with_reducible apply bel_drewN | ((with_reducible refine bel_set ?_ ?_); rotate_left; (simp <;> omega)) | (with_reducible refine bel_trans ?_ (by with_reducible assumption)))))⟩
  · have HST : Hid (rotC 0 (flipC m (x, y)) = (x, y)) := by show flipC m (x, y) = _; unfold flipC; rw [if_neg h4m]
    have h4i : ¬ (m : Int) ≥ 4 := by omega
    go_enter Tryz.func179, Tryz.ntmps179
    go_wp2
    go_loopw [13] (fun e13 wr => ∃ (j : Nat) (x' y' : Int), j ≤ r ∧ e13 = .int .i64 j ∧ rotC j (flipC m (x, y)) = (x', y') ∧ Blk wr w.heap.size 94 #[.int .i64 x', .int .i64 y'] ∧ Blk wr (w.heap.size + 1) 94 #[.int .i64 0, .int .i64 0] ∧ Below w.heap.size w wr) (fun e13 _ => r - (intOf e13).toNat)
    case atStart =>
      have hb1 : Blk ((w.alloc (.cells #[.int .i64 x, .int .i64 y] 94)).alloc (.cells #[.int .i64 0, .int .i64 0] 94)) w.heap.size 94 #[.int .i64 x, .int .i64 y] := (Blk.new w 94 #[.int .i64 x, .int .i64 y]).alloc _
      have hb2 : Blk ((w.alloc (.cells #[.int .i64 x, .int .i64 y] 94)).alloc (.cells #[.int .i64 0, .int .i64 0] 94)) (w.heap.size + 1) 94 #[.int .i64 0, .int .i64 0] := by
        have h := Blk.new (w.alloc (.cells #[.int .i64 x, .int .i64 y] 94)) 94 #[.int .i64 0, .int .i64 0]
        rw [show (w.alloc (.cells #[.int .i64 x, .int .i64 y] 94)).heap.size = w.heap.size + 1 from by simp] at h
        exact h
      exact ⟨0, x, y, Nat.zero_le _, rfl, HST.out, hb1, hb2, (by (repeat (first | with_reducible exact Below.refl _ _ | with_reducible assumption | with_reducible apply bel_alloc | with_reducible apply bel_drew | with_reducible apply bel_drewN | ((with_reducible refine bel_set ?_ ?_); rotate_left; (simp <;> omega)) | (with_reducible refine bel_trans ?_ (by with_reducible assumption)))))⟩
    case round =>
      obtain ⟨j, x', y', hj, rfl, hrot, hB, hB2, hb⟩ := hrel
      have ho : in7 1000 (x', y') := by rw [← hrot]; exact in7_rot HOK.out j
      obtain ⟨⟨k1, k2⟩, k3, k4⟩ := ho
      simp only at k1 k2 k3 k4
      have en : IntKind.i64.wrap (-y') = -y' := Go.IntWalk.i64_in _ (by omega)
      have c0 : wr.cell? ⟨w.heap.size, 0, none⟩ = some (.int .i64 x') := by simpa using hB.cell 0
      have c1 : wr.cell? ⟨w.heap.size, 1, none⟩ = some (.int .i64 y') := by simpa using hB.cell 1
      have f0 := hB.frozen 0
      have f1 := hB.frozen 1
      have d0 : wr.cell? ⟨w.heap.size + 1, 0, none⟩ = some (.int .i64 0) := by simpa using hB2.cell 0
      have d1 : wr.cell? ⟨w.heap.size + 1, 1, none⟩ = some (.int .i64 0) := by simpa using hB2.cell 1
      have fd0 := hB2.frozen 0
      have fd1 := hB2.frozen 1
      by_cases hlt : j < r
      · have hj1 : (j : Int) < (r : Int) := by omega
        have HR : Hid (rotC (j + 1) (flipC m (x, y)) = (-y', x')) := by show (-(rotC j _).2, (rotC j _).1) = _; rw [hrot]
        have hS : Blk ((wr.setCell ⟨w.heap.size, 0, none⟩ (.int .i64 (-y'))).setCell ⟨w.heap.size, 1, none⟩ (.int .i64 x')) w.heap.size 94 #[.int .i64 (-y'), .int .i64 x'] := by simpa using (hB.set_ 0 (.int .i64 (-y'))).set_ 1 (.int .i64 x')
        have hS2 : Blk ((wr.setCell ⟨w.heap.size, 0, none⟩ (.int .i64 (-y'))).setCell ⟨w.heap.size, 1, none⟩ (.int .i64 x')) (w.heap.size + 1) 94 #[.int .i64 0, .int .i64 0] := (hB2.far (by simp) _).far (by simp) _
        have HS := Lib.hid hS
        have HS2 := Lib.hid hS2
        clear hrot hB hB2 hS hS2
        go_wp2
        exact ⟨⟨j + 1, -y', x', by omega, by go_num, HR.out, HS.out, HS2.out, (by (repeat (first | with_reducible exact Below.refl _ _ | with_reducible assumption | with_reducible apply bel_alloc | with_reducible apply bel_drew | with_reducible apply bel_drewN | ((with_reducible refine bel_set ?_ ?_); rotate_left; (simp <;> omega)) | (with_reducible refine bel_trans ?_ (by with_reducible assumption)))))⟩, by simp [intOf]; omega⟩
      · have hjr : j = r := by omega
        subst hjr
        have HV : Hid (motC m (x, y) = (x', y')) := by show motC m (x, y) = _; rw [HC.out, hrot]
        have hj1 : ¬ (j : Int) < (j : Int) := by omega
        clear hrot hB hB2
        go_wp2
        exact bodyPost_ret (v := .agg #[.int .i64 x', .int .i64 y']) (by simp [results, Tryz.results179, go_sem, d0, d1]) rfl ⟨by rw [HV.out], (by (repeat (first | with_reducible exact Below.refl _ _ | with_reducible assumption | with_reducible apply bel_alloc | with_reducible apply bel_drew | with_reducible apply bel_drewN | ((with_reducible refine bel_set ?_ ?_); rotate_left; (simp <;> omega)) | (with_reducible refine bel_trans ?_ (by with_reducible assumption)))))⟩
theorem map_take {α β : Type} (f : α → β) (xs : List α) (k : Nat) (hk : k < xs.length) : (xs.take (k + 1)).map f = (xs.take k).map f ++ [f xs[k]] := by
  rw [List.take_succ_eq_append_getElem hk, List.map_append]; rfl
set_option maxHeartbeats 1600000 in
theorem turned_i (A : Option Addr) (n c : Nat) (xs : List C) (m : Nat) (w : World) (hr : Rd w A (vC xs)) (hl : xs.length = n) (hs : isShape xs = true) (hm : m < 8) :
    Calls Tryz.prog 154 #[.slice A n c, .int .i64 (m : Int)] w (RetS w 94 2 (vC (turnV xs m))) := by
  have hn8 := shape_len hs
  have hti := turn_in hs m
  have hob := shape_onB hs
  rw [hl] at hn8
  obtain ⟨hn1, hn8⟩ := hn8
  have HL := Lib.hid hl
  have HR := Lib.hid hr
  have HTI := Lib.hid hti
  have HOB := Lib.hid hob
  clear hl hr hs hti hob
  go_enter Tryz.func154, Tryz.ntmps154
  go_wp2
  go_loopw [10, 5] (fun e10 e5 wr => ∃ (k cq : Nat) (D : Option Addr), k ≤ n ∧ e10 = .int .i64 k ∧ e5 = .slice D k cq ∧ wr.ownsRow w.heap.size 94 2 (.slice D k cq) k (vC ((xs.take k).map (motC m))) ∧ Below w.heap.size w wr) (fun e10 _ _ => n - (intOf e10).toNat)
  case atStart => exact ⟨0, 0, none, Nat.zero_le _, rfl, rfl, own_nil _ _ _ _, Below.refl _ _⟩
  case round =>
    obtain ⟨k, cq, D, hk, rfl, rfl, hown, hb⟩ := hrel
    by_cases hlt : k < n
    · have hkl : k < xs.length := by rw [HL.out]; exact hlt
      have hk0 : (0 : Int) ≤ (k : Int) := by omega
      have hk1 : (k : Int) < (n : Int) := by omega
      obtain ⟨g, off, hA, hg, d1, d2⟩ := RdC.at_ (HR.out.below hb) hkl
      subst hA
      have hst := map_take (motC m) xs k hkl
      have h7 := in7_onB (HOB.out _ (List.getElem_mem hkl))
      obtain ⟨p, hp⟩ : ∃ p, xs[k].1 = p := ⟨_, rfl⟩
      obtain ⟨q, hq⟩ : ∃ q, xs[k].2 = q := ⟨_, rfl⟩
      rw [show xs[k] = (p, q) from Prod.ext hp hq] at hst h7
      rw [hp] at d1
      rw [hq] at d2
      have hK : in7 1000 (p, q) := by unfold in7 at h7 ⊢; simp only at h7 ⊢; omega
      obtain ⟨⟨x', y'⟩, hxy⟩ : ∃ z, motC m (p, q) = z := ⟨_, rfl⟩
      rw [hxy] at hst
      have HCA : Hid (∀ w0, Calls Tryz.prog 179 #[.agg #[.int .i64 p, .int .i64 q], .int .i64 (m : Int)] w0 (Ret w0 (.agg #[.int .i64 x', .int .i64 y']))) := fun w0 => by
        have h := carry_i p q m w0 hK hm
        rw [hxy] at h
        exact h
      have HST := Lib.hid hst
      have HO := Lib.hid hown
      clear hst hown hp hq h7 hxy hK
      go_wp2_with fail
      refine (HCA.out _).mono ?_
      rintro e w2 ⟨rfl, hb2⟩
      have hb02 := bel_trans (bel_alloc hb (.cells #[.int .i64 p, .int .i64 q] 94)) hb2
      have HO2 := Lib.hid (own_keep (HO.out.alloc (.cells #[.int .i64 p, .int .i64 q] 94)) hb2)
      have hbz := hb02.size
      clear d1 d2
      go_wp2_with (at_builtin; go_must (refine app_C _ rfl _ _ rfl w.heap.size _ _ _ _ rfl (HO2.out.alloc _) _ _ _ [(x', y')] rfl (rd_newC _ _ _ _) rfl (by omega) (by simp; omega) ?_); intro D2 cp2 w8 ho8 hg8 hat8; have HO8 := Lib.hid ho8; have HG8 := Lib.hid hg8; clear ho8 hg8 hat8)
      exact ⟨⟨k + 1, cp2, D2, by omega, by go_num, rfl, by rw [HST.out]; exact HO8.out, bel_app (bel_alloc hb02 _) HG8.out (fun g' hg1 => ((own_lt HO2.out) g' hg1).1)⟩, by simp [intOf]; omega⟩
    · obtain rfl : k = n := by omega
      rw [List.take_of_length_le (by rw [HL.out]; omega)] at hown
      have HO := Lib.hid hown
      have hk1 : ¬ (k : Int) < (k : Int) := by omega
      clear hown
      go_wp2_with fail
      refine (corner_i D k cq (xs.map (motC m)) _ (Rd.of_own HO.out) (by rw [List.length_map]; exact HL.out) hn1 (by omega) (fun d hd => by have := HTI.out d hd; unfold in7 at this; unfold small; omega)).mono ?_
      rintro e w2 ⟨E, q, ce, rfl, hO2, hb2⟩
      have HO2 := Lib.hid hO2
      have hbz := hb.size
      clear hO2
      go_wp2_with fail
      go_ret
      exact ⟨E, q, ce, rfl, own_base HO2.out hbz, bel_trans hb hb2⟩
theorem putV_eq {F : List (List C)} (h : IncG ltS F) (f : List C) : putB ltS F f = putG ltS F f := by
  obtain ⟨h1, h2⟩ := putB_inc ltS_sto h f
  obtain ⟨h3, h4⟩ := putG_inc ltS_sto h f
  exact incG_eq ltS_sto _ _ h1 h3 fun x => by rw [h2, h4]
set_option maxHeartbeats 1600000 in
theorem OrientationsOf_i (A : Option Addr) (n c : Nat) (xs : List C) (w : World) (hr : Rd w A (vC xs)) (hl : xs.length = n) (hs : isShape xs = true) :
    Calls Tryz.prog 123 #[.slice A n c] w (RetF w (orV xs)) := by
  have hn8 := (shape_len hs).2
  rw [hl] at hn8
  have hV : orV xs = orTo xs 8 := by unfold orV; rw [if_pos hs]
  have HTL : Hid (∀ m, 1 ≤ (turnV xs m).length ∧ (turnV xs m).length ≤ 8) := fun m => turn_len hs m
  have hmem := orTo_mem xs
  have HME : Hid (∀ k, ∀ x ∈ orTo xs k, x.length ≤ 1048576) := fun k x hx => by
    obtain ⟨m, _, rfl⟩ := hmem k x hx
    have := (turn_len hs m).2
    omega
  have HV := Lib.hid hV
  have HL := Lib.hid hl
  have HR := Lib.hid hr
  have HS := Lib.hid hs
  clear hl hr hs hV hmem
  go_enter Tryz.func123, Tryz.ntmps123
  go_wp2_with fail
  refine (IsShape_i A n c xs _ HR.out HL.out (by omega)).mono ?_
  rw [HS.out]
  rintro e w1 ⟨rfl, hb1⟩
  have hbz := hb1.size
  go_wp2_with fail
  go_loopw [8, 3] (fun e8 e3 wr => ∃ (m q cq : Nat) (D : Option Addr) (hs : List H), m ≤ 8 ∧ e8 = .int .i64 m ∧ e3 = .slice D q cq ∧ OwnF w1.heap.size wr D q cq hs (orTo xs m) ∧ Below w1.heap.size w1 wr) (fun e8 _ _ => 8 - (intOf e8).toNat)
  case atStart => exact ⟨0, 0, 0, none, [], Nat.zero_le _, rfl, rfl, OwnF.nil _ _, Below.refl _ _⟩
  case round =>
    obtain ⟨m, q, cq, D, hs, hm, rfl, rfl, hO, hb⟩ := hrel
    have hql : (orTo xs m).length = q := hO.flen
    have hol := orTo_len xs m
    have hinc := orTo_inc xs m
    have HINC := Lib.hid hinc
    have hb01 := bel_trans hb1 hb
    have HO := Lib.hid hO
    clear hO hinc
    by_cases hlt : m < 8
    · have hm0 : (0 : Int) ≤ (m : Int) := by omega
      have hm1 : (m : Int) < 8 := by omega
      have hst : orTo xs (m + 1) = putB ltS (orTo xs m) (turnV xs m) := by show putG ltS _ _ = _; rw [putV_eq HINC.out]
      have hme := HME.out m
      have htl := HTL.out m
      obtain ⟨F, hF⟩ : ∃ F, orTo xs m = F := ⟨_, rfl⟩
      obtain ⟨t, ht⟩ : ∃ t, turnV xs m = t := ⟨_, rfl⟩
      have HTU : Hid (∀ w0, Rd w0 A (vC xs) → Calls Tryz.prog 154 #[.slice A n c, .int .i64 (m : Int)] w0 (RetS w0 94 2 (vC t))) := fun w0 h => by
        have h2 := turned_i A n c xs m w0 h HL.out HS.out hlt
        rw [ht] at h2
        exact h2
      rw [hF, ht] at hst
      rw [hF] at hme hql HO HINC hol
      rw [ht] at htl
      have HST := Lib.hid hst
      have HMF := Lib.hid hme
      clear hst hF ht hme
      go_wp2_with fail
      refine (HTU.out _ (HR.out.below hb01)).mono ?_
      rintro e w2 ⟨E, q2, c2, rfl, hT, hb2⟩
      have hq2 : t.length = q2 := by have := own_len hT; rw [vC_length] at this; omega
      have hO2 := HO.out.below hb2
      have hb12 := bel_trans hb hb2
      have HO2 := Lib.hid hO2
      have HCR := Lib.hid (CRow.of_own hT)
      have hz2 := hb12.size
      clear hO2 hT HO
      go_wp2_with fail
      refine (putShape_i D q cq hs F E q2 c2 t w1.heap.size _ HO2.out HCR.out HINC.out HMF.out (by omega) (by omega) hz2).mono ?_
      rintro e w3 ⟨D3, n3, c3, hs3, rfl, hO3, hg3, hD3⟩
      have HO3 := Lib.hid hO3
      have hb13 : Below w1.heap.size w1 w3 := bel_app hb12 hg3 (fun g e => (own_lt HO2.out.own g e).1)
      clear hO3 hD3
      go_wp2_with fail
      exact ⟨⟨m + 1, n3, c3, D3, hs3, by omega, by go_num, rfl, by rw [HST.out]; exact HO3.out, hb13⟩, by simp [intOf]; omega⟩
    · obtain rfl : m = 8 := by omega
      rw [← HV.out] at HO
      have hm1 : ¬ ((8 : Nat) : Int) < 8 := by omega
      go_wp2_with fail
      go_ret
      exact ⟨D, q, cq, hs, rfl, HO.out.mono hbz, hb01⟩
end Go.Proofs.YtglilkneipfheaaGreat

/- The placements of a shape, of all pieces, in a region: the program. -/
namespace Go.Proofs.YtglilkneipfheaaGreat
open Go.RowKit
set_option linter.unusedVariables false
attribute [local go_sem ↓] Go.wp_at_zero Go.wp_at_succ

theorem mv_small {t : List C} (h : ∀ c ∈ t, (0 ≤ c.1 ∧ c.1 ≤ 14) ∧ (0 ≤ c.2 ∧ c.2 ≤ 14)) {x y : Nat} (hx : x ≤ 6) (hy : y ≤ 6) : ∀ d ∈ mv t (x : Int) (y : Int), small d := by
  intro d hd
  rw [mv_mem] at hd
  have := h _ hd
  simp only at this
  unfold small
  omega
set_option maxRecDepth 100000 in
set_option maxHeartbeats 6400000 in
theorem placements_i (W : Int) (A B : Option Addr) (n c k cb : Nat) (rows : List Int) (xs : List C) (w : World) (hr : Rd w A (vI rows)) (hl : rows.length = n) (hv : isReg W rows = true) (hrx : Rd w B (vC xs)) (hlx : xs.length = k) (hs : isShape xs = true) :
    Calls Tryz.prog 79 #[.agg #[.int .i64 W, .slice A n c], .slice B k cb] w (RetS w 3 1 (vI (plV W rows xs))) := by
  have hv0 := hv
  have hPV : plV W rows xs = ord (rawTo W rows (orV xs) (orV xs).length) := by unfold plV; rw [if_pos hv, ord_eq]; rfl
  obtain ⟨m, rfl, hm1, hm6, hn1, hn6, hrow⟩ := isReg_yes hv
  have h36 : m * rows.length ≤ 6 * 6 := Nat.mul_le_mul hm6 hn6
  have hmt : ((m : Int)).toNat = m := Int.toNat_natCast _
  have hfine := orV_fine (s := xs)
  have hol := orV_len xs
  have HLX := Lib.hid hlx
  have HSX := Lib.hid hs
  obtain ⟨F, hF⟩ : ∃ F, orV xs = F := ⟨_, rfl⟩
  rw [hF] at hPV hfine hol
  have HF := Lib.hid hF
  have HPV := Lib.hid hPV
  have HFI := Lib.hid hfine
  have HL := Lib.hid hl
  have HV := Lib.hid hv0
  have HR := Lib.hid (hr.alloc (.cells #[.int .i64 (m : Int), .slice A n c] 29))
  have HRX := Lib.hid (hrx.alloc (.cells #[.int .i64 (m : Int), .slice A n c] 29))
  have H36 : Hid (m * rows.length ≤ 36) := h36
  have HMT := Lib.hid hmt
  rw [hl] at hn1 hn6
  clear hl hr hrow hv hv0 hrx hlx hs h36 hmt hPV hfine hF
  go_enter Tryz.func79, Tryz.ntmps79
  go_wp2_with fail
  refine (OrientationsOf_i B k cb xs _ HRX.out HLX.out HSX.out).mono ?_
  rw [HF.out]
  rintro e w1 ⟨A0, q0, c0, hs, rfl, hO0, hb1⟩
  have HB1 := Lib.hid ((Blk.new w 29 #[.int .i64 (m : Int), .slice A n c]).below hb1)
  have HR1 := Lib.hid (HR.out.below hb1)
  have hbw1 : Below w.heap.size w w1 := bel_trans (bel_alloc (Below.refl _ _) _) hb1
  have HRF := Lib.hid hO0.rd
  have HFL := Lib.hid hO0.flen
  have hq8 : q0 ≤ 8 := by have := hO0.flen; omega
  clear hb1 hO0
  go_wp2_with fail
  go_loopw [15, 5] (fun e15 e5 wr => ∃ (i q cq : Nat) (D : Option Addr), i ≤ q0 ∧ e15 = .int .i64 i ∧ e5 = .slice D q cq ∧ wr.ownsRow w1.heap.size 3 1 (.slice D q cq) q (vI (rawTo (m : Int) rows F i)) ∧ Below w1.heap.size w1 wr) (fun e15 _ _ => q0 - (intOf e15).toNat)
  case atStart => exact ⟨0, 0, 0, none, Nat.zero_le _, rfl, rfl, own_nil _ _ _ _, Below.refl _ _⟩
  case round =>
    obtain ⟨i, q, cq, D, hi, rfl, rfl, hO, hb⟩ := hrel
    have hB := HB1.out.below hb
    have b0 : wr.cell? ⟨w.heap.size, 0, none⟩ = some (.int .i64 (m : Int)) := by simpa using hB.cell 0
    have b1 : wr.cell? ⟨w.heap.size, 1, none⟩ = some (.slice A n c) := by simpa using hB.cell 1
    have hgw := hB.lt
    clear hB
    by_cases hlt : i < q0
    · have hi0 : (0 : Int) ≤ (i : Int) := by omega
      have hi1 : (i : Int) < (q0 : Int) := by omega
      obtain ⟨x, t, gA, off, hsx, hfx, hAe, hg, d1, hrow⟩ := (HRF.out.below hb).at_ hlt
      have hft := HFI.out t (List.mem_of_getElem? hfx)
      have hstep : rawTo (m : Int) rows F (i + 1) = rawTo (m : Int) rows F i ++ rowY (m : Int) rows t n := by
        show _ ++ rowY _ _ (F.getD i []) rows.length = _
        rw [List.getD_eq_getElem?_getD, hfx, Option.getD_some, HL.out]
      have hol2 := (rawTo_msk H36.out F i).2
      obtain ⟨C1, m1, k1⟩ := x
      have hl1 : t.length = m1 := hrow.1
      obtain ⟨O, hOe⟩ : ∃ O, rawTo (m : Int) rows F i = O := ⟨_, rfl⟩
      rw [hOe] at hstep hO hol2
      have hrt : Rd w1 C1 (vC t) := (HRF.out.row i _ _ hsx hfx).2.1
      have HRT := Lib.hid hrt
      have HL1 := Lib.hid hl1
      have HFT := Lib.hid hft
      have HST := Lib.hid hstep
      have HO := Lib.hid hO
      have hOl : O.length ≤ 288 := by omega
      dsimp only at d1
      subst hAe
      clear hsx hfx hrow hstep hO hl1 hft hOe hrt hol2
      go_wp2_with fail
      go_loopw [22, 5] (fun e22 e5 wr => ∃ (y q cq : Nat) (D : Option Addr), y ≤ n ∧ e22 = .int .i64 y ∧ e5 = .slice D q cq ∧ wr.ownsRow w1.heap.size 3 1 (.slice D q cq) q (vI (O ++ rowY (m : Int) rows t y)) ∧ Below w1.heap.size w1 wr) (fun e22 _ _ => n - (intOf e22).toNat)
      case atStart => exact ⟨0, q, cq, D, Nat.zero_le _, rfl, rfl, by simpa [rowY] using HO.out, hb⟩
      case round =>
        clear HO hb b0 b1 hgw d1 hg
        obtain ⟨y, q, cq, D, hy, rfl, rfl, hO, hb⟩ := hrel
        have hB := HB1.out.below hb
        have b0 : wr.cell? ⟨w.heap.size, 0, none⟩ = some (.int .i64 (m : Int)) := by simpa using hB.cell 0
        have b1 : wr.cell? ⟨w.heap.size, 1, none⟩ = some (.slice A n c) := by simpa using hB.cell 1
        have hgw := hB.lt
        clear hB
        by_cases hly : y < n
        · have hy0 : (0 : Int) ≤ (y : Int) := by omega
          have hy1 : (y : Int) < (n : Int) := by omega
          have hstY : rowY (m : Int) rows t (y + 1) = rowY (m : Int) rows t y ++ rowX (m : Int) rows t y m := by show _ ++ rowX _ _ _ _ _ = _; rw [HMT.out]
          have hyl := (rowY_msk H36.out t y).2
          obtain ⟨O2, hO2⟩ : ∃ O2, O ++ rowY (m : Int) rows t y = O2 := ⟨_, rfl⟩
          have hstY2 : O ++ rowY (m : Int) rows t (y + 1) = O2 ++ rowX (m : Int) rows t y m := by rw [hstY, ← List.append_assoc, hO2]
          have hO2l : O2.length ≤ 400 := by
            rw [← hO2, List.length_append]
            have : y * m ≤ 6 * 6 := Nat.mul_le_mul (by omega) hm6
            omega
          rw [hO2] at hO
          have HST2 := Lib.hid hstY2
          have HO := Lib.hid hO
          clear hstY hyl hO2 hstY2 hO
          go_wp2_with fail
          go_loopw [27, 5] (fun e27 e5 wr => ∃ (x q cq : Nat) (D : Option Addr), x ≤ m ∧ e27 = .int .i64 x ∧ e5 = .slice D q cq ∧ wr.ownsRow w1.heap.size 3 1 (.slice D q cq) q (vI (O2 ++ rowX (m : Int) rows t y x)) ∧ Below w1.heap.size w1 wr) (fun e27 _ _ => m - (intOf e27).toNat)
          case atStart => exact ⟨0, q, cq, D, Nat.zero_le _, rfl, rfl, by simpa [rowX] using HO.out, hb⟩
          case round =>
            clear HO hb b0 b1 hgw
            obtain ⟨x, q, cq, D, hx, rfl, rfl, hO, hb⟩ := hrel
            have hB := HB1.out.below hb
            have b0 : wr.cell? ⟨w.heap.size, 0, none⟩ = some (.int .i64 (m : Int)) := by simpa using hB.cell 0
            have b1 : wr.cell? ⟨w.heap.size, 1, none⟩ = some (.slice A n c) := by simpa using hB.cell 1
            have hgw := hB.lt
            clear hB
            have hql : (O2 ++ rowX (m : Int) rows t y x).length = q := by have := own_len hO; rw [vI_length] at this; omega
            have hxl := (rowX_msk H36.out t y x).2
            rw [List.length_append] at hql
            have hq500 : q ≤ 500 := by omega
            by_cases hlx : x < m
            · have hx0 : (0 : Int) ≤ (x : Int) := by omega
              have hx1 : (x : Int) < (m : Int) := by omega
              obtain ⟨r, hmc⟩ : ∃ r, mcV (m : Int) rows (mv t (x : Int) (y : Int)) 0 = r := ⟨_, rfl⟩
              have hstX : O2 ++ rowX (m : Int) rows t y (x + 1) = (O2 ++ rowX (m : Int) rows t y x) ++ optL r := by
                show O2 ++ (_ ++ plAt _ _ _ _ _) = _
                unfold plAt
                rw [hmc, List.append_assoc]
              obtain ⟨O3, hO3⟩ : ∃ O3, O2 ++ rowX (m : Int) rows t y x = O3 := ⟨_, rfl⟩
              rw [hO3] at hstX hO
              have HST3 := Lib.hid hstX
              have HO := Lib.hid hO
              have HMC := Lib.hid hmc
              have HSM : Hid (∀ d ∈ t, small d) := fun d hd => by have := HFT.out.2 d hd; unfold small; omega
              have HSV : Hid (∀ d ∈ mv t (x : Int) (y : Int), small d) := mv_small HFT.out.2 (by omega) (by omega)
              have hm8 : m1 ≤ 8 := by have := HFT.out.1.2; have := HL1.out; omega
              clear hstX hO hmc hO3 hql hxl
              go_wp2_with fail
              refine wp_region_rg 11 rfl (by kernel_rfl) ?_
              (refine rgT (i := 0) (v := ?_) rfl rfl (by kernel_rfl) (by kernel_rfl) (by kernel_rfl) (by rfl) (fun w' hcw => ?_) ?_; rotate_left; ((try dsimp only at hcw); have hbc := hcw.cells; go_simp; first | done | with_reducible rfl); simp only [List.setIfInBounds_toArray, List.set_cons_zero, List.set_cons_succ])
              (refine rgT (i := 1) (v := ?_) rfl rfl (by kernel_rfl) (by kernel_rfl) (by kernel_rfl) (by rfl) (fun w' hcw => ?_) ?_; rotate_left; ((try dsimp only at hcw); have hbc := hcw.cells; go_simp; first | done | with_reducible rfl); simp only [List.setIfInBounds_toArray, List.set_cons_zero, List.set_cons_succ])
              (refine rgT (i := 2) (v := ?_) rfl rfl (by kernel_rfl) (by kernel_rfl) (by kernel_rfl) (by rfl) (fun w' hcw => ?_) ?_; rotate_left; ((try dsimp only at hcw); have hbc := hcw.cells; go_simp; first | done | with_reducible rfl); simp only [List.setIfInBounds_toArray, List.set_cons_zero, List.set_cons_succ])
              (refine rgT (i := 3) (v := ?_) rfl rfl (by kernel_rfl) (by kernel_rfl) (by kernel_rfl) (by rfl) (fun w' hcw => ?_) ?_; rotate_left; ((try dsimp only at hcw); have hbc := hcw.cells; go_simp; first | done | with_reducible rfl); simp only [List.setIfInBounds_toArray, List.set_cons_zero, List.set_cons_succ])
              refine rgK_one (i := 4) (by kernel_rfl) rfl rfl (fun u1 hc1 he1 K hK => ?_)
              go_simp
              refine (moved_i C1 m1 k1 t (x : Int) (y : Int) _ ((HRT.out.below hb).below hc1) HL1.out (by omega) HSM.out (by omega) (by omega)).mono ?_
              rintro e u2 ⟨E, q2, cE, rfl, hoM, hbM⟩
              have hq2 : (mv t (x : Int) (y : Int)).length = q2 := by have := own_len hoM; rw [vC_length] at this; omega
              have hc2 : Below wr.heap.size wr u2 := bel_trans hc1 hbM
              refine hK _ _ hc2 ?_
              clear hK K
              have HRM := Lib.hid (Rd.of_own hoM)
              have HQ2 := Lib.hid hq2
              have hq28 : q2 ≤ 8 := by rw [mv_len] at hq2; have := HL1.out; omega
              clear hoM hq2
              refine rgK_one (i := 5) (by kernel_rfl) rfl rfl (fun u3 hc3 he3 K hK => ?_)
              go_simp
              refine (MaskOfCells_i (m : Int) A E n c q2 cE rows (mv t (x : Int) (y : Int)) _ ((HR1.out.below hb).below hc3) HL.out HV.out (HRM.out.below he3) HQ2.out (by omega) HSV.out).mono ?_
              rw [HMC.out]
              rintro e u4 ⟨rfl, hb4⟩
              have hc4 : Below wr.heap.size wr u4 := bel_trans hc3 hb4
              refine hK _ _ hc4 ?_
              clear hK K
              cases r with
              | none =>
                simp only [mcR]
                (refine rgT (i := 6) (v := ?_) rfl rfl (by kernel_rfl) (by kernel_rfl) (by kernel_rfl) (by rfl) (fun w' hcw => ?_) ?_; rotate_left; ((try dsimp only at hcw); have hbc := hcw.cells; go_simp; first | done | with_reducible rfl); simp only [List.setIfInBounds_toArray, List.set_cons_zero, List.set_cons_succ])
                (refine rgT (i := 7) (v := ?_) rfl rfl (by kernel_rfl) (by kernel_rfl) (by kernel_rfl) (by rfl) (fun w' hcw => ?_) ?_; rotate_left; ((try dsimp only at hcw); have hbc := hcw.cells; go_simp; first | done | with_reducible rfl); simp only [List.setIfInBounds_toArray, List.set_cons_zero, List.set_cons_succ])
                (refine rgT (i := 8) (v := ?_) rfl rfl (by kernel_rfl) (by kernel_rfl) (by kernel_rfl) (by rfl) (fun w' hcw => ?_) ?_; rotate_left; ((try dsimp only at hcw); have hbc := hcw.cells; go_simp; first | done | with_reducible rfl); simp only [List.setIfInBounds_toArray, List.set_cons_zero, List.set_cons_succ])
                (refine rgT (i := 9) (v := ?_) rfl rfl (by kernel_rfl) (by kernel_rfl) (by kernel_rfl) (by rfl) (fun w' hcw => ?_) ?_; rotate_left; ((try dsimp only at hcw); have hbc := hcw.cells; go_simp; first | done | with_reducible rfl); simp only [List.setIfInBounds_toArray, List.set_cons_zero, List.set_cons_succ])
                (refine rgT (i := 10) (v := ?_) rfl rfl (by kernel_rfl) (by kernel_rfl) (by kernel_rfl) (by rfl) (fun w' hcw => ?_) ?_; rotate_left; ((try dsimp only at hcw); have hbc := hcw.cells; go_simp; first | done | with_reducible rfl); simp only [List.setIfInBounds_toArray, List.set_cons_zero, List.set_cons_succ])
                refine ⟨by kernel_rfl, fun wz hcz hez => NoPanic.normal ?_⟩
                go_wp2_with fail
                exact ⟨⟨x + 1, q, cq, D, by omega, by go_num, rfl, by rw [HST3.out]; simpa [optL] using own_keep HO.out hcz, bel_trans hb hcz⟩, by simp [intOf]; omega⟩
              | some v =>
                simp only [mcR]
                (refine rgT (i := 6) (v := ?_) rfl rfl (by kernel_rfl) (by kernel_rfl) (by kernel_rfl) (by rfl) (fun w' hcw => ?_) ?_; rotate_left; ((try dsimp only at hcw); have hbc := hcw.cells; go_simp; first | done | with_reducible rfl); simp only [List.setIfInBounds_toArray, List.set_cons_zero, List.set_cons_succ])
                (refine rgT (i := 7) (v := ?_) rfl rfl (by kernel_rfl) (by kernel_rfl) (by kernel_rfl) (by rfl) (fun w' hcw => ?_) ?_; rotate_left; ((try dsimp only at hcw); have hbc := hcw.cells; go_simp; first | done | with_reducible rfl); simp only [List.setIfInBounds_toArray, List.set_cons_zero, List.set_cons_succ])
                (refine rgT (i := 8) (v := ?_) rfl rfl (by kernel_rfl) (by kernel_rfl) (by kernel_rfl) (by rfl) (fun w' hcw => ?_) ?_; rotate_left; ((try dsimp only at hcw); have hbc := hcw.cells; go_simp; first | done | with_reducible rfl); simp only [List.setIfInBounds_toArray, List.set_cons_zero, List.set_cons_succ])
                (refine rgT (i := 9) (v := ?_) rfl rfl (by kernel_rfl) (by kernel_rfl) (by kernel_rfl) (by rfl) (fun w' hcw => ?_) ?_; rotate_left; ((try dsimp only at hcw); have hbc := hcw.cells; go_simp; first | done | with_reducible rfl); simp only [List.setIfInBounds_toArray, List.set_cons_zero, List.set_cons_succ])
                (refine rgT (i := 10) (v := ?_) rfl rfl (by kernel_rfl) (by kernel_rfl) (by kernel_rfl) (by rfl) (fun w' hcw => ?_) ?_; rotate_left; ((try dsimp only at hcw); have hbc := hcw.cells; go_simp; first | done | with_reducible rfl); simp only [List.setIfInBounds_toArray, List.set_cons_zero, List.set_cons_succ])
                refine ⟨by kernel_rfl, fun wz hcz hez => NoPanic.normal ?_⟩
                have HOZ := Lib.hid (own_keep HO.out hcz)
                have hbz := bel_trans hb hcz
                have hzz := hbz.size
                clear hcz hez hc4 hb4 hc3 he3 hc2 hbM hc1 he1 b0 b1 hgw
                go_wp2_with (at_builtin; go_must (refine app_I _ rfl _ _ rfl w1.heap.size _ _ _ _ rfl (HOZ.out.alloc _) _ _ _ [(v : Int)] rfl (rd_newI _ _ _) rfl (by omega) (by simp; omega) ?_); intro D2 cp2 w8 ho8 hg8 hat8; have HO8 := Lib.hid ho8; have HG8 := Lib.hid hg8; clear ho8 hg8 hat8)
                exact ⟨⟨x + 1, q + 1, cp2, D2, by omega, by go_num, rfl, by rw [HST3.out]; exact HO8.out, bel_app (bel_alloc hbz _) HG8.out (fun g' hg1 => ((own_lt HOZ.out) g' hg1).1)⟩, by simp [intOf]; omega⟩
            · obtain rfl : x = m := by omega
              rw [← HST2.out] at hO
              have HO := Lib.hid hO
              have hx1 : ¬ (x : Int) < (x : Int) := by omega
              clear hO hql hxl
              go_wp2_with fail
              exact ⟨⟨y + 1, q, cq, D, by omega, by go_num, rfl, HO.out, hb⟩, by simp [intOf]; omega⟩
        · obtain rfl : y = n := by omega
          rw [← HST.out] at hO
          have HO := Lib.hid hO
          have hy1 : ¬ (y : Int) < (y : Int) := by omega
          clear hO
          go_wp2_with fail
          exact ⟨⟨i + 1, q, cq, D, by omega, by go_num, rfl, HO.out, hb⟩, by simp [intOf]; omega⟩
    · obtain rfl : i = q0 := by omega
      have hql : (rawTo (m : Int) rows F i).length = q := by have := own_len hO; rw [vI_length] at this; omega
      have hol2 := (rawTo_msk H36.out F i).2
      have HN : Hid (plV (m : Int) rows xs = ord (rawTo (m : Int) rows F i)) := by show _ = _; rw [HPV.out, HFL.out]
      have HO := Lib.hid hO
      have HQL := Lib.hid hql
      have hq3 : q ≤ 288 := by omega
      have hi1 : ¬ (i : Int) < (i : Int) := by omega
      clear hO hql hol2
      go_wp2_with fail
      refine (ordered_i D q cq (rawTo (m : Int) rows F i) _ (Rd.of_own HO.out) HQL.out (by omega)).mono ?_
      rw [← HN.out]
      rintro e w2 ⟨E, q2, c2, rfl, hO2, hb2⟩
      have HO2 := Lib.hid hO2
      have hb02 := bel_trans hbw1 hb
      have hbz := hb02.size
      clear hO2
      go_wp2_with fail
      go_ret
      exact ⟨E, q2, c2, rfl, own_base HO2.out hbz, bel_trans hb02 hb2⟩
theorem pcs_at {P : List (List C)} (h : pcs P = true) : P.length ≤ 5 ∧ ∀ f ∈ P, isShape f = true := by
  refine ⟨(pcs_small h).1, ?_⟩
  unfold pcs at h
  simp only [Bool.and_eq_true, List.all_eq_true] at h
  exact h.1
theorem isProblem_i (W : Int) (A B : Option Addr) (n c q cb : Nat) (rows : List Int) (hs : List H) (P : List (List C)) (w : World) (hr : Rd w A (vI rows)) (hl : rows.length = n) (hp : RdP w B q hs P) (hq : q ≤ 1048576) (hm : totC P ≤ 1048576) :
    Calls Tryz.prog 71 #[.agg #[.int .i64 W, .slice A n c], .slice B q cb] w (Ret w (.bool (isReg W rows && pcs P))) := by
  have HL := Lib.hid hl
  have HR := Lib.hid (hr.alloc (.cells #[.int .i64 W, .slice A n c] 29))
  have HP := Lib.hid (hp.alloc (.cells #[.int .i64 W, .slice A n c] 29))
  have HM := Lib.hid hm
  clear hl hr hp hm
  cases hv : isReg W rows with
  | false =>
    have HV := Lib.hid hv
    clear hv
    go_enter Tryz.func71, Tryz.ntmps71
    go_wp2_with fail
    refine (IsRegion_i _ _ _ _ rows _ HR.out HL.out).mono ?_
    rw [HV.out]
    rintro e w1 ⟨rfl, hb1⟩
    go_wp2_with fail
    go_ret
    exact ⟨rfl, (by (repeat (first | with_reducible exact Below.refl _ _ | with_reducible assumption | with_reducible apply bel_alloc | with_reducible apply bel_drew | with_reducible apply bel_drewN | ((with_reducible refine bel_set ?_ ?_); rotate_left; (simp <;> omega)) | (with_reducible refine bel_trans ?_ (by with_reducible assumption)))))⟩
  | true =>
    have HV := Lib.hid hv
    clear hv
    go_enter Tryz.func71, Tryz.ntmps71
    go_wp2_with fail
    refine (IsRegion_i _ _ _ _ rows _ HR.out HL.out).mono ?_
    rw [HV.out]
    rintro e w1 ⟨rfl, hb1⟩
    go_wp2_with fail
    refine (ArePieces_i B q cb hs P _ (HP.out.below hb1) hq HM.out).mono ?_
    rintro e w2 ⟨rfl, hb2⟩
    go_wp2_with fail
    go_ret
    exact ⟨by simp, (by (repeat (first | with_reducible exact Below.refl _ _ | with_reducible assumption | with_reducible apply bel_alloc | with_reducible apply bel_drew | with_reducible apply bel_drewN | ((with_reducible refine bel_set ?_ ?_); rotate_left; (simp <;> omega)) | (with_reducible refine bel_trans ?_ (by with_reducible assumption)))))⟩
end Go.Proofs.YtglilkneipfheaaGreat

/- An append of cells by an operation taken alone. -/
namespace Go.Proofs.YtglilkneipfheaaGreat
open Go.RowKit
set_option linter.unusedVariables false
section
variable (w : World) {ops : Array Oper} {rest : List Oper} {o : Oper} {a : Act} {Q : Exit → Act → World → Prop}
theorem wpC (s x : Operand) {K : Act → World → Prop} (ho : o.op = .call { callee := .builtin .append, args := #[s, x], argTypes := #[59, 59] })
    (base : Nat) (A : Option Addr) (n c : Nat) (l : List C) (hs : a.eval s = .slice A n c) (hown : w.ownsRow base 94 2 (.slice A n c) n (vC l))
    (A2 : Option Addr) (m c2 : Nat) (l2 : List C) (hx : a.eval x = .slice A2 m c2) (hr : Rd w A2 (vC l2)) (hl : l2.length = m) (hb : n + m ≤ 1099511627776) (hbase : base ≤ w.heap.size)
    (h : ∀ A' c' w', w'.ownsRow base 94 2 (.slice A' (n + m) c') (n + m) (vC (l ++ l2)) → w.grownBy w' (ob A) → (ob A' = ob A ∨ ob A' = some w.heap.size) → K (a.put o.dst (.slice A' (n + m) c')) w') :
    o.wp Tryz.prog a w K Q := by
  obtain ⟨i0, hi, hz0, hz1, hz2⟩ := info_parts infoC
  refine wp_app w s x _ ho base _ i0 _ 2 16 Tryz.underlying59 hi hz0 hz1 hz2 rfl (by omega) A n c _ hs hown A2 m c2 _ hx hr (by rw [vC_length, hl]) (vC_one _) (by unfold maxLen; omega) (by omega) hbase ?_
  intro A' c' w' h1
  rw [← vC_append] at h1
  exact h A' c' w' h1
end
end Go.Proofs.YtglilkneipfheaaGreat
