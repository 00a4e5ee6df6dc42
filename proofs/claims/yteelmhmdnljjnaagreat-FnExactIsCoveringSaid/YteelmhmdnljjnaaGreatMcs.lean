/- Has a region a cell? The mask of some cells: both sides. -/
import Derived.Test.YteelmhmdnljjnaaGreatPlcM
import Derived.Test.YteelmhmdnljjnaaGreatIsReg
import Derived.Test.YteelmhmdnljjnaaGreatQreg
import Derived.Outline
import Derived.WalkLawsBesides
import Derived.WalkSpells
import Derived.BigQuiet
import Derived.Deep.QuietTactic
import Derived.Deep.RegionHeld3
import Derived.Deep.RegionWith
import Derived.Deep.DeepCutAuto
import Derived.Deep.CutBlock
import Derived.Deep.DrawnRows
namespace Go.Proofs.YteelmhmdnljjnaaGreat
open Go.RowKit
set_option linter.unusedVariables false
attribute [local go_sem ↓] Go.wp_at_zero Go.wp_at_succ

set_option maxHeartbeats 1600000 in
theorem has_i (W : Int) (A : Option Addr) (n c : Nat) (rows : List Int) (x y : Int) (w : World) (hr : Rd w A (vI rows)) (hl : rows.length = n) (hv : isReg W rows = true) (hx : -1000 ≤ x ∧ x ≤ 1000) (hy : -1000 ≤ y ∧ y ≤ 1000) :
    Calls Tryz.prog 98 #[.agg #[.int .i64 W, .slice A n c], .int .i64 x, .int .i64 y] w (Ret w (.bool (hasR W rows (x, y)))) := by
  obtain ⟨m, rfl, hm1, hm6, hn1, hn6, hrow⟩ := isReg_yes hv
  rw [hl] at hn1 hn6
  have HL := Lib.hid hl
  have HR := Lib.hid (hr.alloc (.cells #[.int .i64 (m : Int), .slice A n c] 29))
  have HROW := Lib.hid hrow
  have hdef : hasR (m : Int) rows (x, y) = (((decide (0 ≤ x) && decide (x < m)) && (decide (0 ≤ y) && decide (y < (n : Int)))) && (rows.getD y.toNat 0).toNat.testBit x.toNat) := by unfold hasR; rw [hl]
  have HD := Lib.hid hdef
  clear hl hr hrow hv hdef
  by_cases hxm : 0 ≤ x ∧ x < m
  · by_cases hyn : 0 ≤ y ∧ y < n
    · obtain ⟨p, rfl⟩ := Int.eq_ofNat_of_zero_le hxm.1
      obtain ⟨q, rfl⟩ := Int.eq_ofNat_of_zero_le hyn.1
      have hkl : q < rows.length := by rw [HL.out]; omega
      obtain ⟨t, ht, htl⟩ := HROW.out q hkl
      have hgd : (rows.getD ((q : Int)).toNat 0).toNat = t := by rw [Int.toNat_natCast, List.getD_eq_getElem?_getD, List.getElem?_eq_getElem hkl, Option.getD_some, ht]; rfl
      have HV : Hid (hasR (m : Int) rows ((p : Int), (q : Int)) = t.testBit p) := by
        show _ = _
        rw [HD.out, hgd, Int.toNat_natCast]
        simp only [show (0 : Int) ≤ (p : Int) from by omega, show (0 : Int) ≤ (q : Int) from by omega, show (p : Int) < (m : Int) from by omega, show (q : Int) < (n : Int) from by omega, decide_true, Bool.and_true, Bool.true_and]
      have h26 : t < 2 ^ 62 := Nat.lt_of_lt_of_le htl (Nat.pow_le_pow_right (by decide) (by omega))
      have hbit := bit_testP t p h26
      have ht26 : t < 2 ^ 6 := Nat.lt_of_lt_of_le htl (Nat.pow_le_pow_right (by decide) hm6)
      obtain ⟨d, hd⟩ : ∃ d, t / 2 ^ p = d := ⟨_, rfl⟩
      have hdI : (t : Int) / 2 ^ p = (d : Int) := by rw [← hd]; simp
      rw [hdI] at hbit
      have hp0 : (0 : Int) ≤ (p : Int) := by omega
      have hp64 : (p : Int) ≤ 64 := by omega
      have hq0 : (0 : Int) ≤ (q : Int) := by omega
      have hq1 : (q : Int) < (n : Int) := by omega
      have b1 : true = (decide ((0 : Int) ≤ (p : Int)) && decide ((p : Int) ≤ (m : Int) - 1)) := by simp; omega
      have b2 : true = (decide ((0 : Int) ≤ (q : Int)) && decide ((q : Int) ≤ (n : Int) - 1)) := by simp; omega
      have B1 := Lib.hid b1
      have B2 := Lib.hid b2
      have e1 : IntKind.i64.wrap ((m : Int) - 1) = (m : Int) - 1 := Go.IntWalk.i64_in _ (by omega)
      have e2 : IntKind.i64.wrap ((n : Int) - 1) = (n : Int) - 1 := Go.IntWalk.i64_in _ (by omega)
      have HKL := Lib.hid hkl
      have HTT := Lib.hid ht
      clear ht htl hgd hd hxm hyn b1 b2 h26
      go_enter Tryz.func98, Tryz.ntmps98
      go_wp2_with fail
      refine (between_b (p : Int) 0 ((m : Int) - 1) true _ B1.out).mono ?_
      rintro e w1 ⟨rfl, hb1⟩
      have hB := (Blk.new w 29 #[.int .i64 (m : Int), .slice A n c]).below hb1
      have d0 : w1.cell? ⟨w.heap.size, 0, none⟩ = some (.int .i64 (m : Int)) := by simpa using hB.cell 0
      have d1 : w1.cell? ⟨w.heap.size, 1, none⟩ = some (.slice A n c) := by simpa using hB.cell 1
      have hgw := hB.lt
      go_wp2_with fail
      refine (between_b (q : Int) 0 ((n : Int) - 1) true _ B2.out).mono ?_
      rintro e w2 ⟨rfl, hb2⟩
      have d2 := keep_below hb2 d1
      have hgw2 : w.heap.size < w2.heap.size := Nat.lt_of_lt_of_le hgw hb2.size
      obtain ⟨g, off, hA, hg, c1⟩ := RdI.at_ ((HR.out.below hb1).below hb2) HKL.out
      rw [HTT.out] at c1
      subst hA
      go_wp2_with fail
      go_ret
      exact ⟨by rw [HV.out, ← hbit]; rfl, (by (repeat (first | with_reducible exact Below.refl _ _ | with_reducible assumption | with_reducible apply bel_alloc | with_reducible apply bel_drew | with_reducible apply bel_drewN | ((with_reducible refine bel_set ?_ ?_); rotate_left; (simp <;> omega)) | (with_reducible refine bel_trans ?_ (by with_reducible assumption)))))⟩
    · have HV : Hid (hasR (m : Int) rows (x, y) = false) := by
        show _ = _
        rw [HD.out]
        have : (decide (0 ≤ y) && decide (y < (n : Int))) = false := by
          rw [Bool.eq_false_iff]; intro h; simp only [Bool.and_eq_true, decide_eq_true_eq] at h; exact hyn h
        rw [this, Bool.and_false, Bool.false_and]
      have b1 : true = (decide ((0 : Int) ≤ x) && decide (x ≤ (m : Int) - 1)) := by simp; omega
      have b2 : false = (decide ((0 : Int) ≤ y) && decide (y ≤ (n : Int) - 1)) := by
        symm; rw [Bool.eq_false_iff]; intro h; simp only [Bool.and_eq_true, decide_eq_true_eq] at h; exact hyn ⟨h.1, by omega⟩
      have B1 := Lib.hid b1
      have B2 := Lib.hid b2
      have e1 : IntKind.i64.wrap ((m : Int) - 1) = (m : Int) - 1 := Go.IntWalk.i64_in _ (by omega)
      have e2 : IntKind.i64.wrap ((n : Int) - 1) = (n : Int) - 1 := Go.IntWalk.i64_in _ (by omega)
      clear hxm hyn b1 b2
      go_enter Tryz.func98, Tryz.ntmps98
      go_wp2_with fail
      refine (between_b x 0 ((m : Int) - 1) true _ B1.out).mono ?_
      rintro e w1 ⟨rfl, hb1⟩
      have hB := (Blk.new w 29 #[.int .i64 (m : Int), .slice A n c]).below hb1
      have d0 : w1.cell? ⟨w.heap.size, 0, none⟩ = some (.int .i64 (m : Int)) := by simpa using hB.cell 0
      have d1 : w1.cell? ⟨w.heap.size, 1, none⟩ = some (.slice A n c) := by simpa using hB.cell 1
      have hgw := hB.lt
      go_wp2_with fail
      refine (between_b y 0 ((n : Int) - 1) false _ B2.out).mono ?_
      rintro e w2 ⟨rfl, hb2⟩
      go_wp2_with fail
      go_ret
      exact ⟨by rw [HV.out]; rfl, (by (repeat (first | with_reducible exact Below.refl _ _ | with_reducible assumption | with_reducible apply bel_alloc | with_reducible apply bel_drew | with_reducible apply bel_drewN | ((with_reducible refine bel_set ?_ ?_); rotate_left; (simp <;> omega)) | (with_reducible refine bel_trans ?_ (by with_reducible assumption)))))⟩
  · have HV : Hid (hasR (m : Int) rows (x, y) = false) := by
      show _ = _
      rw [HD.out]
      have : (decide (0 ≤ x) && decide (x < (m : Int))) = false := by
        rw [Bool.eq_false_iff]; intro h; simp only [Bool.and_eq_true, decide_eq_true_eq] at h; exact hxm h
      rw [this, Bool.false_and, Bool.false_and]
    have b1 : false = (decide ((0 : Int) ≤ x) && decide (x ≤ (m : Int) - 1)) := by
      symm; rw [Bool.eq_false_iff]; intro h; simp only [Bool.and_eq_true, decide_eq_true_eq] at h; exact hxm ⟨h.1, by omega⟩
    have B1 := Lib.hid b1
    have e1 : IntKind.i64.wrap ((m : Int) - 1) = (m : Int) - 1 := Go.IntWalk.i64_in _ (by omega)
    clear hxm b1
    go_enter Tryz.func98, Tryz.ntmps98
    go_wp2_with fail
    refine (between_b x 0 ((m : Int) - 1) false _ B1.out).mono ?_
    rintro e w1 ⟨rfl, hb1⟩
    go_wp2_with fail
    go_ret
    exact ⟨by rw [HV.out]; rfl, (by (repeat (first | with_reducible exact Below.refl _ _ | with_reducible assumption | with_reducible apply bel_alloc | with_reducible apply bel_drew | with_reducible apply bel_drewN | ((with_reducible refine bel_set ?_ ?_); rotate_left; (simp <;> omega)) | (with_reducible refine bel_trans ?_ (by with_reducible assumption)))))⟩
set_option maxHeartbeats 1600000 in
theorem l6In_s (W : Int) (A : Option Addr) (n c : Nat) (rows : List Int) (x y : Int) (w : World) (hr : Rd w A (vI rows)) (hl : rows.length = n) (hv : isReg W rows = true) (hx : -1000 ≤ x ∧ x ≤ 1000) (hy : -1000 ≤ y ∧ y ≤ 1000) :
    Calls Tryz.prog 80 #[.agg #[.int .i64 W, .slice A n c], .int .i64 x, .int .i64 y] w (Ret w (.bool (hasR W rows (x, y)))) := by
  obtain ⟨m, rfl, hm1, hm6, hn1, hn6, hrow⟩ := isReg_yes hv
  rw [hl] at hn1 hn6
  have HL := Lib.hid hl
  have HR := Lib.hid (hr.alloc (.cells #[.int .i64 (m : Int), .slice A n c] 29))
  have HROW := Lib.hid hrow
  have hdef : hasR (m : Int) rows (x, y) = (((decide (0 ≤ x) && decide (x < m)) && (decide (0 ≤ y) && decide (y < (n : Int)))) && (rows.getD y.toNat 0).toNat.testBit x.toNat) := by unfold hasR; rw [hl]
  have HD := Lib.hid hdef
  clear hl hr hrow hv hdef
  cases c1 : decide (x ≥ 0) with
  | false =>
    have HV : Hid (hasR (m : Int) rows (x, y) = false) := by show _ = _; rw [HD.out, show decide (0 ≤ x) = false from c1]; rfl
    go_enter Tryz.func80, Tryz.ntmps80
    go_wp2_with fail
    go_ret
    exact ⟨by rw [HV.out]; rfl, (by (repeat (first | with_reducible exact Below.refl _ _ | with_reducible assumption | with_reducible apply bel_alloc | with_reducible apply bel_drew | with_reducible apply bel_drewN | ((with_reducible refine bel_set ?_ ?_); rotate_left; (simp <;> omega)) | (with_reducible refine bel_trans ?_ (by with_reducible assumption)))))⟩
  | true =>
    cases c2 : decide (y ≥ 0) with
    | false =>
      have HV : Hid (hasR (m : Int) rows (x, y) = false) := by show _ = _; rw [HD.out, show decide (0 ≤ y) = false from c2]; simp
      go_enter Tryz.func80, Tryz.ntmps80
      go_wp2_with fail
      go_ret
      exact ⟨by rw [HV.out]; rfl, (by (repeat (first | with_reducible exact Below.refl _ _ | with_reducible assumption | with_reducible apply bel_alloc | with_reducible apply bel_drew | with_reducible apply bel_drewN | ((with_reducible refine bel_set ?_ ?_); rotate_left; (simp <;> omega)) | (with_reducible refine bel_trans ?_ (by with_reducible assumption)))))⟩
    | true =>
      cases c3 : decide (x < (m : Int)) with
      | false =>
        have HV : Hid (hasR (m : Int) rows (x, y) = false) := by show _ = _; rw [HD.out, c3]; simp
        go_enter Tryz.func80, Tryz.ntmps80
        go_wp2_with fail
        go_ret
        exact ⟨by rw [HV.out]; rfl, (by (repeat (first | with_reducible exact Below.refl _ _ | with_reducible assumption | with_reducible apply bel_alloc | with_reducible apply bel_drew | with_reducible apply bel_drewN | ((with_reducible refine bel_set ?_ ?_); rotate_left; (simp <;> omega)) | (with_reducible refine bel_trans ?_ (by with_reducible assumption)))))⟩
      | true =>
        cases c4 : decide (y < (n : Int)) with
        | false =>
          have HV : Hid (hasR (m : Int) rows (x, y) = false) := by show _ = _; rw [HD.out, c4]; simp
          go_enter Tryz.func80, Tryz.ntmps80
          go_wp2_with fail
          go_ret
          exact ⟨by rw [HV.out]; rfl, (by (repeat (first | with_reducible exact Below.refl _ _ | with_reducible assumption | with_reducible apply bel_alloc | with_reducible apply bel_drew | with_reducible apply bel_drewN | ((with_reducible refine bel_set ?_ ?_); rotate_left; (simp <;> omega)) | (with_reducible refine bel_trans ?_ (by with_reducible assumption)))))⟩
        | true =>
          have hx0 := of_decide_eq_true c1
          have hy0 := of_decide_eq_true c2
          have hx1 := of_decide_eq_true c3
          have hy1 := of_decide_eq_true c4
          obtain ⟨p, rfl⟩ := Int.eq_ofNat_of_zero_le hx0
          obtain ⟨q, rfl⟩ := Int.eq_ofNat_of_zero_le hy0
          have hkl : q < rows.length := by rw [HL.out]; omega
          obtain ⟨t, ht, htl⟩ := HROW.out q hkl
          have hgd : (rows.getD ((q : Int)).toNat 0).toNat = t := by rw [Int.toNat_natCast, List.getD_eq_getElem?_getD, List.getElem?_eq_getElem hkl, Option.getD_some, ht]; rfl
          have HV : Hid (hasR (m : Int) rows ((p : Int), (q : Int)) = t.testBit p) := by
            show _ = _
            rw [HD.out, hgd, Int.toNat_natCast, show decide ((0 : Int) ≤ (p : Int)) = true from c1, show decide ((0 : Int) ≤ (q : Int)) = true from c2, c3, c4]
            simp
          have h26 : t < 2 ^ 62 := Nat.lt_of_lt_of_le htl (Nat.pow_le_pow_right (by decide) (by omega))
          have hbit := bit_testP t p h26
          have ht26 : t < 2 ^ 6 := Nat.lt_of_lt_of_le htl (Nat.pow_le_pow_right (by decide) hm6)
          obtain ⟨d, hd⟩ : ∃ d, t / 2 ^ p = d := ⟨_, rfl⟩
          have hdI : (t : Int) / 2 ^ p = (d : Int) := by rw [← hd]; simp
          rw [hdI] at hbit
          have hp64 : (p : Int) ≤ 64 := by omega
          have HRR := HR.out
          obtain ⟨g, off, hA, hg, c9⟩ := RdI.at_ HRR hkl
          rw [ht] at c9
          subst hA
          clear ht htl hgd hd h26 HRR
          go_enter Tryz.func80, Tryz.ntmps80
          go_wp2_with fail
          go_ret
          exact ⟨by rw [HV.out, ← hbit]; rfl, (by (repeat (first | with_reducible exact Below.refl _ _ | with_reducible assumption | with_reducible apply bel_alloc | with_reducible apply bel_drew | with_reducible apply bel_drewN | ((with_reducible refine bel_set ?_ ?_); rotate_left; (simp <;> omega)) | (with_reducible refine bel_trans ?_ (by with_reducible assumption)))))⟩
theorem InRegion_s (W : Int) (A : Option Addr) (n c : Nat) (rows : List Int) (x y : Int) (w : World) (hr : Rd w A (vI rows)) (hl : rows.length = n) (hx : -1000 ≤ x ∧ x ≤ 1000) (hy : -1000 ≤ y ∧ y ≤ 1000) :
    Calls Tryz.prog 92 #[.agg #[.int .i64 W, .slice A n c], .int .i64 x, .int .i64 y] w (Ret w (.bool (isReg W rows && hasR W rows (x, y)))) := by
  have HL := Lib.hid hl
  have HR := Lib.hid (hr.alloc (.cells #[.int .i64 W, .slice A n c] 29))
  have HX := Lib.hid hx
  have HY := Lib.hid hy
  clear hl hr hx hy
  cases hv : isReg W rows with
  | false =>
    have HV := Lib.hid hv
    clear hv
    go_enter Tryz.func92, Tryz.ntmps92
    go_wp2_with fail
    refine (IsRegion_s _ _ _ _ rows _ HR.out HL.out).mono ?_
    rw [HV.out]
    rintro e w1 ⟨rfl, hb1⟩
    go_wp2_with fail
    go_ret
    exact ⟨rfl, (by (repeat (first | with_reducible exact Below.refl _ _ | with_reducible assumption | with_reducible apply bel_alloc | with_reducible apply bel_drew | with_reducible apply bel_drewN | ((with_reducible refine bel_set ?_ ?_); rotate_left; (simp <;> omega)) | (with_reducible refine bel_trans ?_ (by with_reducible assumption)))))⟩
  | true =>
    have HV := Lib.hid hv
    clear hv
    go_enter Tryz.func92, Tryz.ntmps92
    go_wp2_with fail
    refine (IsRegion_s _ _ _ _ rows _ HR.out HL.out).mono ?_
    rw [HV.out]
    rintro e w1 ⟨rfl, hb1⟩
    have hB := (Blk.new w 29 #[.int .i64 W, .slice A n c]).below hb1
    have d0 : w1.cell? ⟨w.heap.size, 0, none⟩ = some (.int .i64 W) := by simpa using hB.cell 0
    have d1 : w1.cell? ⟨w.heap.size, 1, none⟩ = some (.slice A n c) := by simpa using hB.cell 1
    have hgw := hB.lt
    go_wp2_with fail
    refine (l6In_s _ _ _ _ rows x y _ (HR.out.below hb1) HL.out HV.out HX.out HY.out).mono ?_
    rintro e w2 ⟨rfl, hb2⟩
    go_wp2_with fail
    go_ret
    exact ⟨by simp, (by (repeat (first | with_reducible exact Below.refl _ _ | with_reducible assumption | with_reducible apply bel_alloc | with_reducible apply bel_drew | with_reducible apply bel_drewN | ((with_reducible refine bel_set ?_ ?_); rotate_left; (simp <;> omega)) | (with_reducible refine bel_trans ?_ (by with_reducible assumption)))))⟩
theorem mc_num {m n : Nat} {rows : List Int} {x y : Int} (h36 : m * rows.length ≤ 36) (h : hasR (m : Int) rows (x, y) = true) :
    ∃ p q s j : Nat, x = (p : Int) ∧ y = (q : Int) ∧ p < m ∧ (q : Int) * (m : Int) = (s : Int) ∧ (s : Int) + (p : Int) = (j : Int) ∧ posM m (x, y) = j ∧ j < 36 ∧ j < m * rows.length ∧ s ≤ 36 := by
  obtain ⟨p, q, e, h1, h2, h3, h4⟩ := hasR_pos h
  injection e with e1 e2
  exact ⟨p, q, q * m, q * m + p, e1, e2, h1, by simp, by simp, h3, by omega, h4, by omega⟩
set_option maxRecDepth 100000 in
set_option maxHeartbeats 3200000 in
theorem MaskOfCells_i (W : Int) (A B : Option Addr) (n c k cb : Nat) (rows : List Int) (cs : List C) (w : World) (hr : Rd w A (vI rows)) (hl : rows.length = n) (hv : isReg W rows = true) (hrc : Rd w B (vC cs)) (hlc : cs.length = k) (hk : k ≤ 1048576) (hs : ∀ d ∈ cs, small d) :
    Calls Tryz.prog 75 #[.agg #[.int .i64 W, .slice A n c], .slice B k cb] w (Ret w (mcR (mcV W rows cs 0))) := by
  have hv0 := hv
  obtain ⟨m, rfl, hm1, hm6, hn1, hn6, hrow⟩ := isReg_yes hv
  have h36 : m * rows.length ≤ 6 * 6 := Nat.mul_le_mul hm6 hn6
  have HL := Lib.hid hl
  have HV := Lib.hid hv0
  have HR := Lib.hid (hr.alloc (.cells #[.int .i64 (m : Int), .slice A n c] 29))
  have HRC := Lib.hid (hrc.alloc (.cells #[.int .i64 (m : Int), .slice A n c] 29))
  have HLC := Lib.hid hlc
  have HS := Lib.hid hs
  have H36 : Hid (m * rows.length ≤ 36) := h36
  have hmt : ((m : Int)).toNat = m := Int.toNat_natCast _
  have HMT := Lib.hid hmt
  clear hl hr hrow hv hv0 hrc hlc hs h36 hn1 hn6 hmt
  go_enter Tryz.func75, Tryz.ntmps75
  go_wp2_with fail
  refine (IsRegion_i _ _ _ _ rows _ HR.out HL.out).mono ?_
  rw [HV.out]
  rintro e w1 ⟨rfl, hb1⟩
  have HB1 := Lib.hid ((Blk.new w 29 #[.int .i64 (m : Int), .slice A n c]).below hb1)
  have HR1 := Lib.hid (HR.out.below hb1)
  have HRC1 := Lib.hid (HRC.out.below hb1)
  have hbw1 : Below w.heap.size w w1 := bel_trans (bel_alloc (Below.refl _ _) _) hb1
  clear hb1
  go_wp2_with fail
  go_loopw [14, 6] (fun e14 e6 wr => ∃ (i v : Nat), i ≤ k ∧ e14 = .int .i64 i ∧ e6 = .int .i64 (v : Int) ∧ v < 2 ^ (m * rows.length) ∧ mcV (m : Int) rows cs 0 = mcV (m : Int) rows (cs.drop i) v ∧ Below w1.heap.size w1 wr) (fun e14 _ _ => k - (intOf e14).toNat)
  case atStart => exact ⟨0, 0, Nat.zero_le _, rfl, rfl, Nat.pow_pos (by decide), rfl, Below.refl _ _⟩
  case round =>
    obtain ⟨i, v, hi, rfl, rfl, hvl, hmc, hb⟩ := hrel
    have hv36 : v < 2 ^ 36 := Nat.lt_of_lt_of_le hvl (Nat.pow_le_pow_right (by decide) H36.out)
    by_cases hlt : i < k
    · have hkl : i < cs.length := by rw [HLC.out]; exact hlt
      have hi0 : (0 : Int) ≤ (i : Int) := by omega
      have hi1 : (i : Int) < (k : Int) := by omega
      obtain ⟨g, off, hA, hg, d1, d2⟩ := RdC.at_ (HRC1.out.below hb) hkl
      have hsm := HS.out _ (List.getElem_mem hkl)
      rw [List.drop_eq_getElem_cons hkl] at hmc
      obtain ⟨x, hx⟩ : ∃ x, cs[i].1 = x := ⟨_, rfl⟩
      obtain ⟨y, hy⟩ : ∃ y, cs[i].2 = y := ⟨_, rfl⟩
      rw [show cs[i] = (x, y) from Prod.ext hx hy] at hmc hsm
      rw [hx] at d1
      rw [hy] at d2
      unfold small at hsm
      simp only at hsm
      have hNO : (hasR (m : Int) rows (x, y) && !v.testBit (posM m (x, y))) = false → mcV (m : Int) rows cs 0 = none := fun h => by rw [hmc]; exact mcV_no (by rw [HMT.out]; exact h)
      have hYES : (hasR (m : Int) rows (x, y) && !v.testBit (posM m (x, y))) = true → mcV (m : Int) rows cs 0 = mcV (m : Int) rows (cs.drop (i + 1)) (v + 2 ^ posM m (x, y)) := fun h => by rw [hmc, mcV_yes (by rw [HMT.out]; exact h), HMT.out]
      have HNO := Lib.hid hNO
      have HYES := Lib.hid hYES
      have HSX := Lib.hid hsm.1
      have HSY := Lib.hid hsm.2
      have hB := HB1.out.below hb
      have b0 : wr.cell? ⟨w.heap.size, 0, none⟩ = some (.int .i64 (m : Int)) := by simpa using hB.cell 0
      have b1 : wr.cell? ⟨w.heap.size, 1, none⟩ = some (.slice A n c) := by simpa using hB.cell 1
      have hgw := hB.lt
      have HVL := Lib.hid hvl
      subst hA
      clear hmc hx hy hsm hB hNO hYES hvl
      cases hh : hasR (m : Int) rows (x, y) with
      | false =>
        have HH := Lib.hid hh
        have HN := Lib.hid (HNO.out (by rw [hh]; rfl))
        clear hh HNO HYES
        go_wp2_with fail
        refine (has_i (m : Int) A n c rows x y _ ((HR1.out.below hb).alloc _) HL.out HV.out HSX.out HSY.out).mono ?_
        rw [HH.out]
        rintro e w2 ⟨rfl, hb2⟩
        go_wp2_with fail
        go_ret2
        exact ⟨by rw [HN.out]; rfl, bel_trans hbw1 (bel_trans hb (bel_trans (bel_alloc (Below.refl _ _) _) hb2))⟩
      | true =>
        have HH := Lib.hid hh
        obtain ⟨p, q, s, j, rfl, rfl, hpm, hs, hj, hpos, hj36, hjl, hs36⟩ := mc_num H36.out hh (n := n)
        have hj0 : (0 : Int) ≤ (j : Int) := by omega
        have hj64 : (j : Int) ≤ 64 := by omega
        have hv62 : v < 2 ^ 62 := by omega
        have hbit := bit_testP v j hv62
        obtain ⟨d, hd⟩ : ∃ d, v / 2 ^ j = d := ⟨_, rfl⟩
        have hdI : (v : Int) / 2 ^ j = (d : Int) := by rw [← hd]; simp
        rw [hdI] at hbit
        have es : IntKind.i64.wrap (s : Int) = (s : Int) := Go.IntWalk.i64_in _ (by omega)
        have ej : IntKind.i64.wrap (j : Int) = (j : Int) := Go.IntWalk.i64_in _ (by omega)
        have h2j : (2 : Nat) ^ j < 2 ^ 36 := Nat.pow_lt_pow_right (by decide) hj36
        obtain ⟨t, ht⟩ : ∃ t : Nat, 2 ^ j = t := ⟨_, rfl⟩
        have htI : (2 : Int) ^ j = (t : Int) := by rw [← ht]; simp
        have hdT : (v : Int) / (t : Int) = (d : Int) := by rw [← htI]; exact hdI
        clear hdI
        rw [hpos] at HNO HYES
        rw [ht] at HYES
        have hTT : v.testBit j = false → v ||| t = v + t ∧ v + t < 2 ^ (m * rows.length) := fun h => by
          have h1 := or_bit hv62 (by omega) h
          rw [ht] at h1
          refine ⟨h1, ?_⟩
          rw [← h1, ← ht]
          exact Nat.or_lt_two_pow HVL.out (Nat.pow_lt_pow_right (by decide) hjl)
        have HTT := Lib.hid hTT
        rw [ht] at h2j
        clear hh hpos hd ht hTT
        cases hb2 : v.testBit j with
        | true =>
          have HN := Lib.hid (HNO.out (by rw [HH.out, hb2]; rfl))
          rw [hb2] at hbit
          clear hb2 HNO HYES HTT
          go_wp2_with fail
          refine (has_i (m : Int) A n c rows (p : Int) (q : Int) _ ((HR1.out.below hb).alloc _) HL.out HV.out HSX.out HSY.out).mono ?_
          rw [HH.out]
          rintro e w2 ⟨rfl, hb2⟩
          have hDK := (Blk.new wr 71 #[.int .i64 (p : Int), .int .i64 (q : Int)]).below hb2
          have c0 : w2.cell? ⟨wr.heap.size, 0, none⟩ = some (.int .i64 (p : Int)) := by simpa using hDK.cell 0
          have c1 : w2.cell? ⟨wr.heap.size, 1, none⟩ = some (.int .i64 (q : Int)) := by simpa using hDK.cell 1
          have cl := hDK.lt
          have y0 := keep_below hb2 (keep_alloc (o := .cells #[.int .i64 (p : Int), .int .i64 (q : Int)] 71) b0)
          have yl : w.heap.size < w2.heap.size := by omega
          clear hDK d1 d2 b0 b1
          go_wp2_with fail
          go_ret2
          exact ⟨by rw [HN.out]; rfl, bel_trans hbw1 (bel_trans hb (bel_trans (bel_alloc (Below.refl _ _) _) hb2))⟩
        | false =>
          have HN := Lib.hid (HYES.out (by rw [HH.out, hb2]; rfl))
          rw [hb2] at hbit
          obtain ⟨h1, h2⟩ := HTT.out hb2
          have hor : bits .or .i64 (v : Int) (t : Int) = ((v + t : Nat) : Int) := by rw [i64_or v t (by omega) (by omega), h1]
          have H2 := Lib.hid h2
          have HOR := Lib.hid hor
          clear hb2 HNO HYES HTT h1 h2 hor
          go_wp2_with fail
          refine (has_i (m : Int) A n c rows (p : Int) (q : Int) _ ((HR1.out.below hb).alloc _) HL.out HV.out HSX.out HSY.out).mono ?_
          rw [HH.out]
          rintro e w2 ⟨rfl, hb2⟩
          have hDK := (Blk.new wr 71 #[.int .i64 (p : Int), .int .i64 (q : Int)]).below hb2
          have c0 : w2.cell? ⟨wr.heap.size, 0, none⟩ = some (.int .i64 (p : Int)) := by simpa using hDK.cell 0
          have c1 : w2.cell? ⟨wr.heap.size, 1, none⟩ = some (.int .i64 (q : Int)) := by simpa using hDK.cell 1
          have cl := hDK.lt
          have y0 := keep_below hb2 (keep_alloc (o := .cells #[.int .i64 (p : Int), .int .i64 (q : Int)] 71) b0)
          have yl : w.heap.size < w2.heap.size := by omega
          have hor := HOR.out
          clear hDK d1 d2 b0 b1
          go_wp2_with fail
          exact ⟨⟨i + 1, v + t, by omega, by go_num, rfl, H2.out, HN.out, bel_trans hb (bel_trans (bel_alloc (Below.refl _ _) _) hb2)⟩, by simp [intOf]; omega⟩
    · obtain rfl : i = k := by omega
      rw [List.drop_of_length_le (by rw [HLC.out]; omega)] at hmc
      have HN := Lib.hid hmc
      have hi1 : ¬ (i : Int) < (i : Int) := by omega
      clear hmc hvl
      go_wp2_with fail
      go_ret2
      exact ⟨by rw [HN.out]; rfl, bel_trans hbw1 hb⟩
set_option maxRecDepth 100000 in
set_option maxHeartbeats 3200000 in
theorem MaskOfCells_s (W : Int) (A B : Option Addr) (n c k cb : Nat) (rows : List Int) (cs : List C) (w : World) (hr : Rd w A (vI rows)) (hl : rows.length = n) (hv : isReg W rows = true) (hrc : Rd w B (vC cs)) (hlc : cs.length = k) (hk : k ≤ 1048576) (hs : ∀ d ∈ cs, small d) :
    Calls Tryz.prog 69 #[.agg #[.int .i64 W, .slice A n c], .slice B k cb] w (Ret w (mcR (mcV W rows cs 0))) := by
  have hv0 := hv
  obtain ⟨m, rfl, hm1, hm6, hn1, hn6, hrow⟩ := isReg_yes hv
  have h36 : m * rows.length ≤ 6 * 6 := Nat.mul_le_mul hm6 hn6
  have HL := Lib.hid hl
  have HV := Lib.hid hv0
  have HR := Lib.hid (hr.alloc (.cells #[.int .i64 (m : Int), .slice A n c] 29))
  have HRC := Lib.hid (hrc.alloc (.cells #[.int .i64 (m : Int), .slice A n c] 29))
  have HLC := Lib.hid hlc
  have HS := Lib.hid hs
  have H36 : Hid (m * rows.length ≤ 36) := h36
  have hmt : ((m : Int)).toNat = m := Int.toNat_natCast _
  have HMT := Lib.hid hmt
  have HB1 := Lib.hid (Blk.new w 29 #[.int .i64 (m : Int), .slice A n c])
  have hbw1 : Below w.heap.size w (w.alloc (.cells #[.int .i64 (m : Int), .slice A n c] 29)) := bel_alloc (Below.refl _ _) _
  clear hl hr hrow hv hv0 hrc hlc hs h36 hn1 hn6 hmt
  go_enter Tryz.func69, Tryz.ntmps69
  go_wp2_with fail
  obtain ⟨w1, hw1⟩ : ∃ w1, w.alloc (.cells #[.int .i64 (m : Int), .slice A n c] 29) = w1 := ⟨_, rfl⟩
  rw [hw1] at HR HRC HB1 hbw1 ⊢
  clear hw1
  go_loopw [7, 6] (fun e14 e6 wr => ∃ (i v : Nat), i ≤ k ∧ e14 = .int .i64 i ∧ e6 = .int .i64 (v : Int) ∧ v < 2 ^ (m * rows.length) ∧ mcV (m : Int) rows cs 0 = mcV (m : Int) rows (cs.drop i) v ∧ Below w1.heap.size w1 wr) (fun e14 _ _ => k - (intOf e14).toNat)
  case atStart => exact ⟨0, 0, Nat.zero_le _, rfl, rfl, Nat.pow_pos (by decide), rfl, Below.refl _ _⟩
  case round =>
    obtain ⟨i, v, hi, rfl, rfl, hvl, hmc, hb⟩ := hrel
    have hv36 : v < 2 ^ 36 := Nat.lt_of_lt_of_le hvl (Nat.pow_le_pow_right (by decide) H36.out)
    have hB := HB1.out.below hb
    have b0 : wr.cell? ⟨w.heap.size, 0, none⟩ = some (.int .i64 (m : Int)) := by simpa using hB.cell 0
    have b1 : wr.cell? ⟨w.heap.size, 1, none⟩ = some (.slice A n c) := by simpa using hB.cell 1
    have hgw := hB.lt
    clear hB
    by_cases hlt : i < k
    · have hkl : i < cs.length := by rw [HLC.out]; exact hlt
      have hi0 : (0 : Int) ≤ (i : Int) := by omega
      have hi1 : (i : Int) < (k : Int) := by omega
      obtain ⟨g, off, hA, hg, d1, d2⟩ := RdC.at_ (HRC.out.below hb) hkl
      have hsm := HS.out _ (List.getElem_mem hkl)
      rw [List.drop_eq_getElem_cons hkl] at hmc
      obtain ⟨x, hx⟩ : ∃ x, cs[i].1 = x := ⟨_, rfl⟩
      obtain ⟨y, hy⟩ : ∃ y, cs[i].2 = y := ⟨_, rfl⟩
      rw [show cs[i] = (x, y) from Prod.ext hx hy] at hmc hsm
      rw [hx] at d1
      rw [hy] at d2
      unfold small at hsm
      simp only at hsm
      have hNO : (hasR (m : Int) rows (x, y) && !v.testBit (posM m (x, y))) = false → mcV (m : Int) rows cs 0 = none := fun h => by rw [hmc]; exact mcV_no (by rw [HMT.out]; exact h)
      have hYES : (hasR (m : Int) rows (x, y) && !v.testBit (posM m (x, y))) = true → mcV (m : Int) rows cs 0 = mcV (m : Int) rows (cs.drop (i + 1)) (v + 2 ^ posM m (x, y)) := fun h => by rw [hmc, mcV_yes (by rw [HMT.out]; exact h), HMT.out]
      have HNO := Lib.hid hNO
      have HYES := Lib.hid hYES
      have HSX := Lib.hid hsm.1
      have HSY := Lib.hid hsm.2
      have HVL := Lib.hid hvl
      subst hA
      clear hmc hx hy hsm hNO hYES hvl
      cases hh : hasR (m : Int) rows (x, y) with
      | false =>
        have HIR : Hid (∀ w0, Below wr.heap.size wr w0 → Calls Tryz.prog 92 #[.agg #[.int .i64 (m : Int), .slice A n c], .int .i64 x, .int .i64 y] w0 (Ret w0 (.bool false))) := fun w0 h => by
          have h2 := InRegion_s (m : Int) A n c rows x y w0 ((HR.out.below hb).below h) HL.out HSX.out HSY.out
          rw [HV.out, hh] at h2
          exact h2
        have HN := Lib.hid (HNO.out (by rw [hh]; rfl))
        clear hh HNO HYES
        go_wp2_with fail
        (refine wp_region_below (by kernel_rfl) (by kernel_rfl) ?_; (repeat (first | go_big_quiet_skip | (refine quietV (v := ?_) (by rfl) rfl (fun w' hbw => ?_) ?_; rotate_left; ((try dsimp only at hbw); have hbc := (bcell hbw).1; have hbf := (bcell hbw).2; go_simp; first | done | with_reducible rfl | (with_reducible exact callsB (v := .bool false) (HIR.out _ hbw) hbw)); simp only [List.setIfInBounds_toArray, List.set_cons_zero, List.set_cons_succ]))); refine wpQuiet_nil ?_; intro wq hbq)
        go_wp2_with fail
        go_ret2
        exact ⟨by rw [HN.out]; rfl, bel_trans hbw1 (bel_trans hb hbq)⟩
      | true =>
        have HH := Lib.hid hh
        obtain ⟨p, q, s, j, rfl, rfl, hpm, hs, hj, hpos, hj36, hjl, hs36⟩ := mc_num H36.out hh (n := n)
        have HIR : Hid (∀ w0, Below wr.heap.size wr w0 → Calls Tryz.prog 92 #[.agg #[.int .i64 (m : Int), .slice A n c], .int .i64 (p : Int), .int .i64 (q : Int)] w0 (Ret w0 (.bool true))) := fun w0 h => by
          have h2 := InRegion_s (m : Int) A n c rows (p : Int) (q : Int) w0 ((HR.out.below hb).below h) HL.out HSX.out HSY.out
          rw [HV.out, hh] at h2
          exact h2
        have hj0 : (0 : Int) ≤ (j : Int) := by omega
        have hj64 : (j : Int) ≤ 64 := by omega
        have hv62 : v < 2 ^ 62 := by omega
        have hbit := bit_testP v j hv62
        obtain ⟨d, hd⟩ : ∃ d, v / 2 ^ j = d := ⟨_, rfl⟩
        have hdI : (v : Int) / 2 ^ j = (d : Int) := by rw [← hd]; simp
        rw [hdI] at hbit
        have es : IntKind.i64.wrap (s : Int) = (s : Int) := Go.IntWalk.i64_in _ (by omega)
        have ej : IntKind.i64.wrap (j : Int) = (j : Int) := Go.IntWalk.i64_in _ (by omega)
        have h2j : (2 : Nat) ^ j < 2 ^ 36 := Nat.pow_lt_pow_right (by decide) hj36
        obtain ⟨t, ht⟩ : ∃ t : Nat, 2 ^ j = t := ⟨_, rfl⟩
        have htI : (2 : Int) ^ j = (t : Int) := by rw [← ht]; simp
        have hdT : (v : Int) / (t : Int) = (d : Int) := by rw [← htI]; exact hdI
        rw [hpos] at HNO HYES
        rw [ht] at HYES
        have hTT : v.testBit j = false → v + t < 2 ^ (m * rows.length) := fun h => by
          have h1 := or_bit hv62 (by omega) h
          rw [ht] at h1
          rw [← h1, ← ht]
          exact Nat.or_lt_two_pow HVL.out (Nat.pow_lt_pow_right (by decide) hjl)
        have HTT := Lib.hid hTT
        rw [ht] at h2j
        have et : IntKind.i64.wrap (t : Int) = (t : Int) := Go.IntWalk.i64_in _ (by omega)
        obtain ⟨u, hu⟩ : ∃ u, u = v + t := ⟨_, rfl⟩
        have huI : (v : Int) + (t : Int) = (u : Int) := by omega
        have eu : IntKind.i64.wrap (u : Int) = (u : Int) := Go.IntWalk.i64_in _ (by omega)
        rw [← hu] at HTT HYES
        clear hh hpos hd ht hTT hu hdI
        cases hb2 : v.testBit j with
        | true =>
          have HN := Lib.hid (HNO.out (by rw [HH.out, hb2]; rfl))
          rw [hb2] at hbit
          clear hb2 HNO HYES HTT
          go_wp2_with fail
          (refine wp_region_below (by kernel_rfl) (by kernel_rfl) ?_; (repeat (first | go_big_quiet_skip | (refine quietV (v := ?_) (by rfl) rfl (fun w' hbw => ?_) ?_; rotate_left; ((try dsimp only at hbw); have hbc := (bcell hbw).1; have hbf := (bcell hbw).2; go_simp; first | done | with_reducible rfl | (with_reducible exact callsB (v := .bool true) (HIR.out _ hbw) hbw)); simp only [List.setIfInBounds_toArray, List.set_cons_zero, List.set_cons_succ]))); refine wpQuiet_nil ?_; intro wq hbq)
          go_wp2_with fail
          go_ret2
          exact ⟨by rw [HN.out]; rfl, bel_trans hbw1 (bel_trans hb hbq)⟩
        | false =>
          have HN := Lib.hid (HYES.out (by rw [HH.out, hb2]; rfl))
          rw [hb2] at hbit
          have H2 := Lib.hid (HTT.out hb2)
          clear hb2 HNO HYES HTT
          go_wp2_with fail
          (refine wp_region_below (by kernel_rfl) (by kernel_rfl) ?_; (repeat (first | go_big_quiet_skip | (refine quietV (v := ?_) (by rfl) rfl (fun w' hbw => ?_) ?_; rotate_left; ((try dsimp only at hbw); have hbc := (bcell hbw).1; have hbf := (bcell hbw).2; go_simp; first | done | with_reducible rfl | (with_reducible exact callsB (v := .bool true) (HIR.out _ hbw) hbw)); simp only [List.setIfInBounds_toArray, List.set_cons_zero, List.set_cons_succ]))); refine wpQuiet_nil ?_; intro wq hbq)
          have b0' := keep_below hbq b0
          have d1' := keep_below hbq d1
          have d2' := keep_below hbq d2
          have hgw' : w.heap.size < wq.heap.size := Nat.lt_of_lt_of_le hgw hbq.size
          have hg' : g < wq.heap.size := Nat.lt_of_lt_of_le hg hbq.size
          clear b0 b1 d1 d2 HIR
          go_wp2_with fail
          (refine wp_region_below (by kernel_rfl) (by kernel_rfl) ?_; (repeat (first | go_big_quiet_skip | (refine quietV (v := ?_) (by rfl) rfl (fun w' hbw => ?_) ?_; rotate_left; ((try dsimp only at hbw); have hbc := (bcell hbw).1; have hbf := (bcell hbw).2; go_simp; first | done | with_reducible rfl | fail); simp only [List.setIfInBounds_toArray, List.set_cons_zero, List.set_cons_succ]))); refine wpQuiet_nil ?_; intro wz hbz)
          go_wp2_with fail
          exact ⟨⟨i + 1, u, by omega, by go_num, by first | rfl | (simp <;> omega), H2.out, HN.out, bel_trans hb (bel_trans hbq hbz)⟩, by simp [intOf]; omega⟩
    · obtain rfl : i = k := by omega
      rw [List.drop_of_length_le (by rw [HLC.out]; omega)] at hmc
      have HN := Lib.hid hmc
      have hi1 : ¬ (i : Int) < (i : Int) := by omega
      clear hmc hvl
      go_wp2_with fail
      refine (IsRegion_s _ _ _ _ rows _ (HR.out.below hb) HL.out).mono ?_
      rw [HV.out]
      rintro e w2 ⟨rfl, hb2⟩
      go_wp2_with fail
      go_ret2
      exact ⟨by rw [HN.out]; rfl, bel_trans hbw1 (bel_trans hb hb2)⟩
end Go.Proofs.YteelmhmdnljjnaaGreat
