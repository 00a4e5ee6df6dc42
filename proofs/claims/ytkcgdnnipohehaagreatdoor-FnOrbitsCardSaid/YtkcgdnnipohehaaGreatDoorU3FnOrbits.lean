/- Texts of this claim, one behind the other: part 3. -/
import Derived.Test.YtkcgdnnipohehaaGreatDoorU2FnOrbits
import Derived.Outline
import Derived.WalkLawsBesides
import Derived.WalkSpells
import Derived.BigQuiet
import Derived.Deep.QuietTactic
import Derived.Deep.RegionHeld3
import Derived.Deep.RegionWith
import Derived.Deep.DeepCutAuto
import Derived.Deep.CutBlock
import Derived.Deep.DrawnRows
import Derived.Deep.RegionLaw
import Derived.Laws.CopyOwn
namespace Go.Proofs.YtkcgdnnipohehaaGreatDoor
open Go.RowKit
set_option linter.unusedVariables false
set_option maxRecDepth 100000
set_option maxHeartbeats 6400000
section
attribute [local go_sem ↓] Go.wp_at_zero Go.wp_at_succ
theorem has_i (W : Int) (A : Option Addr) (n c : Nat) (rows : List Int) (x y : Int) (w : World) (hr : Rd w A (vI rows)) (hl : rows.length = n) (hv : isReg W rows = true) (hx : -1000 ≤ x ∧ x ≤ 1000) (hy : -1000 ≤ y ∧ y ≤ 1000) :
  Calls Tryz.prog 192 #[.agg #[.int .i64 W, .slice A n c], .int .i64 x, .int .i64 y] w (Ret w (.bool (hasR W rows (x, y)))) := by
 obtain ⟨m, rfl, hm1, hm6, hn1, hn6, hrow⟩ := isReg_yes hv
 rw [hl] at hn1 hn6
 have HL := Lib.hid hl
 have HR := Lib.hid (hr.alloc (.cells #[.int .i64 (m : Int), .slice A n c] 26))
 have HROW := Lib.hid hrow
 have hdef : hasR (m : Int) rows (x, y) = (((decide (0 ≤ x) && decide (x < m)) && (decide (0 ≤ y) && decide (y < (n : Int)))) && (rows.getD y.toNat 0).toNat.testBit x.toNat) := by unfold hasR; rw [hl]
 have HD := Lib.hid hdef
 clear hl hr hrow hv hdef
 by_cases hxm : 0 ≤ x ∧ x < m
 ·by_cases hyn : 0 ≤ y ∧ y < n
  ·obtain ⟨p, rfl⟩ := Int.eq_ofNat_of_zero_le hxm.1
   obtain ⟨q, rfl⟩ := Int.eq_ofNat_of_zero_le hyn.1
   have hkl : q < rows.length := by rw [HL.out]; omega
   obtain ⟨t, ht, htl⟩ := HROW.out q hkl
   have hgd : (rows.getD ((q : Int)).toNat 0).toNat = t := by rw [Int.toNat_natCast, List.getD_eq_getElem?_getD, List.getElem?_eq_getElem hkl, Option.getD_some, ht]; rfl
   have HV : Hid (hasR (m : Int) rows ((p : Int), (q : Int)) = t.testBit p) := by
    show _ = _
    rw [HD.out, hgd, Int.toNat_natCast]
    simp only [show (0 : Int) ≤ (p : Int) from by omega, show (0 : Int) ≤ (q : Int) from by omega, show (p : Int) < (m : Int) from by omega, show (q : Int) < (n : Int) from by omega, decide_true, Bool.and_true, Bool.true_and]
   have h26 : t < 2 ^ 62 := Nat.lt_of_lt_of_le htl (Nat.pow_le_pow_right (by decide) (by omega))
   have hbit := bit_testP t p h26
   have ht26 : t < 2 ^ 6 := Nat.lt_of_lt_of_le htl (Nat.pow_le_pow_right (by decide) hm6)
   obtain ⟨d, hd⟩ : ∃ d, t / 2 ^ p = d := ⟨_, rfl⟩
   have hdI : (t : Int) / 2 ^ p = (d : Int) := by rw [← hd]; simp
   rw [hdI] at hbit
   have hp0 : (0 : Int) ≤ (p : Int) := by omega
   have hp64 : (p : Int) ≤ 64 := by omega
   have hq0 : (0 : Int) ≤ (q : Int) := by omega
   have hq1 : (q : Int) < (n : Int) := by omega
   have b1 : true = (decide ((0 : Int) ≤ (p : Int)) && decide ((p : Int) ≤ (m : Int) - 1)) := by simp; omega
   have b2 : true = (decide ((0 : Int) ≤ (q : Int)) && decide ((q : Int) ≤ (n : Int) - 1)) := by simp; omega
   have B1 := Lib.hid b1
   have B2 := Lib.hid b2
   have e1 : IntKind.i64.wrap ((m : Int) - 1) = (m : Int) - 1 := Go.IntWalk.i64_in _ (by omega)
   have e2 : IntKind.i64.wrap ((n : Int) - 1) = (n : Int) - 1 := Go.IntWalk.i64_in _ (by omega)
   have HKL := Lib.hid hkl
   have HTT := Lib.hid ht
   clear ht htl hgd hd hxm hyn b1 b2 h26
   go_enter Tryz.func192, Tryz.ntmps192
   go_wp2_with fail
   refine (between_b (p : Int) 0 ((m : Int) - 1) true _ B1.out).mono ?_
   rintro e w1 ⟨rfl, hb1⟩
   have hB := (Blk.new w 26 #[.int .i64 (m : Int), .slice A n c]).below hb1
   have d0 : w1.cell? ⟨w.heap.size, 0, none⟩ = some (.int .i64 (m : Int)) := by simpa using hB.cell 0
   have d1 : w1.cell? ⟨w.heap.size, 1, none⟩ = some (.slice A n c) := by simpa using hB.cell 1
   have hgw := hB.lt
   go_wp2_with fail
   refine (between_b (q : Int) 0 ((n : Int) - 1) true _ B2.out).mono ?_
   rintro e w2 ⟨rfl, hb2⟩
   have d2 := keep_below hb2 d1
   have hgw2 : w.heap.size < w2.heap.size := Nat.lt_of_lt_of_le hgw hb2.size
   obtain ⟨g, off, hA, hg, c1⟩ := RdI.at_ ((HR.out.below hb1).below hb2) HKL.out
   rw [HTT.out] at c1
   subst hA
   go_wp2_with fail
   go_ret
   exact ⟨by rw [HV.out, ← hbit]; rfl, (by (repeat (first | with_reducible exact Below.refl _ _ | with_reducible assumption | with_reducible apply bel_alloc | with_reducible apply bel_drew | with_reducible apply bel_drewN | ((with_reducible refine bel_set ?_ ?_); rotate_left; (simp <;> omega)) | (with_reducible refine bel_trans ?_ (by with_reducible assumption)))))⟩
  ·have HV : Hid (hasR (m : Int) rows (x, y) = false) := by
    show _ = _
    rw [HD.out]
    have : (decide (0 ≤ y) && decide (y < (n : Int))) = false := by
     rw [Bool.eq_false_iff]; intro h; simp only [Bool.and_eq_true, decide_eq_true_eq] at h; exact hyn h
    rw [this, Bool.and_false, Bool.false_and]
   have b1 : true = (decide ((0 : Int) ≤ x) && decide (x ≤ (m : Int) - 1)) := by simp; omega
   have b2 : false = (decide ((0 : Int) ≤ y) && decide (y ≤ (n : Int) - 1)) := by
    symm; rw [Bool.eq_false_iff]; intro h; simp only [Bool.and_eq_true, decide_eq_true_eq] at h; exact hyn ⟨h.1, by omega⟩
   have B1 := Lib.hid b1
   have B2 := Lib.hid b2
   have e1 : IntKind.i64.wrap ((m : Int) - 1) = (m : Int) - 1 := Go.IntWalk.i64_in _ (by omega)
   have e2 : IntKind.i64.wrap ((n : Int) - 1) = (n : Int) - 1 := Go.IntWalk.i64_in _ (by omega)
   clear hxm hyn b1 b2
   go_enter Tryz.func192, Tryz.ntmps192
   go_wp2_with fail
   refine (between_b x 0 ((m : Int) - 1) true _ B1.out).mono ?_
   rintro e w1 ⟨rfl, hb1⟩
   have hB := (Blk.new w 26 #[.int .i64 (m : Int), .slice A n c]).below hb1
   have d0 : w1.cell? ⟨w.heap.size, 0, none⟩ = some (.int .i64 (m : Int)) := by simpa using hB.cell 0
   have d1 : w1.cell? ⟨w.heap.size, 1, none⟩ = some (.slice A n c) := by simpa using hB.cell 1
   have hgw := hB.lt
   go_wp2_with fail
   refine (between_b y 0 ((n : Int) - 1) false _ B2.out).mono ?_
   rintro e w2 ⟨rfl, hb2⟩
   go_wp2_with fail
   go_ret
   exact ⟨by rw [HV.out]; rfl, (by (repeat (first | with_reducible exact Below.refl _ _ | with_reducible assumption | with_reducible apply bel_alloc | with_reducible apply bel_drew | with_reducible apply bel_drewN | ((with_reducible refine bel_set ?_ ?_); rotate_left; (simp <;> omega)) | (with_reducible refine bel_trans ?_ (by with_reducible assumption)))))⟩
 ·have HV : Hid (hasR (m : Int) rows (x, y) = false) := by
   show _ = _
   rw [HD.out]
   have : (decide (0 ≤ x) && decide (x < (m : Int))) = false := by
    rw [Bool.eq_false_iff]; intro h; simp only [Bool.and_eq_true, decide_eq_true_eq] at h; exact hxm h
   rw [this, Bool.false_and, Bool.false_and]
  have b1 : false = (decide ((0 : Int) ≤ x) && decide (x ≤ (m : Int) - 1)) := by
   symm; rw [Bool.eq_false_iff]; intro h; simp only [Bool.and_eq_true, decide_eq_true_eq] at h; exact hxm ⟨h.1, by omega⟩
  have B1 := Lib.hid b1
  have e1 : IntKind.i64.wrap ((m : Int) - 1) = (m : Int) - 1 := Go.IntWalk.i64_in _ (by omega)
  clear hxm b1
  go_enter Tryz.func192, Tryz.ntmps192
  go_wp2_with fail
  refine (between_b x 0 ((m : Int) - 1) false _ B1.out).mono ?_
  rintro e w1 ⟨rfl, hb1⟩
  go_wp2_with fail
  go_ret
  exact ⟨by rw [HV.out]; rfl, (by (repeat (first | with_reducible exact Below.refl _ _ | with_reducible assumption | with_reducible apply bel_alloc | with_reducible apply bel_drew | with_reducible apply bel_drewN | ((with_reducible refine bel_set ?_ ?_); rotate_left; (simp <;> omega)) | (with_reducible refine bel_trans ?_ (by with_reducible assumption)))))⟩
theorem l6In_s (W : Int) (A : Option Addr) (n c : Nat) (rows : List Int) (x y : Int) (w : World) (hr : Rd w A (vI rows)) (hl : rows.length = n) (hv : isReg W rows = true) (hx : -1000 ≤ x ∧ x ≤ 1000) (hy : -1000 ≤ y ∧ y ≤ 1000) :
  Calls Tryz.prog 194 #[.agg #[.int .i64 W, .slice A n c], .int .i64 x, .int .i64 y] w (Ret w (.bool (hasR W rows (x, y)))) := by
 obtain ⟨m, rfl, hm1, hm6, hn1, hn6, hrow⟩ := isReg_yes hv
 rw [hl] at hn1 hn6
 have HL := Lib.hid hl
 have HR := Lib.hid (hr.alloc (.cells #[.int .i64 (m : Int), .slice A n c] 26))
 have HROW := Lib.hid hrow
 have hdef : hasR (m : Int) rows (x, y) = (((decide (0 ≤ x) && decide (x < m)) && (decide (0 ≤ y) && decide (y < (n : Int)))) && (rows.getD y.toNat 0).toNat.testBit x.toNat) := by unfold hasR; rw [hl]
 have HD := Lib.hid hdef
 clear hl hr hrow hv hdef
 cases c1 : decide (x ≥ 0) with
 | false =>
  have HV : Hid (hasR (m : Int) rows (x, y) = false) := by show _ = _; rw [HD.out, show decide (0 ≤ x) = false from c1]; rfl
  go_enter Tryz.func194, Tryz.ntmps194
  go_wp2_with fail
  go_ret
  exact ⟨by rw [HV.out]; rfl, (by (repeat (first | with_reducible exact Below.refl _ _ | with_reducible assumption | with_reducible apply bel_alloc | with_reducible apply bel_drew | with_reducible apply bel_drewN | ((with_reducible refine bel_set ?_ ?_); rotate_left; (simp <;> omega)) | (with_reducible refine bel_trans ?_ (by with_reducible assumption)))))⟩
 | true =>
  cases c2 : decide (y ≥ 0) with
  | false =>
   have HV : Hid (hasR (m : Int) rows (x, y) = false) := by show _ = _; rw [HD.out, show decide (0 ≤ y) = false from c2]; simp
   go_enter Tryz.func194, Tryz.ntmps194
   go_wp2_with fail
   go_ret
   exact ⟨by rw [HV.out]; rfl, (by (repeat (first | with_reducible exact Below.refl _ _ | with_reducible assumption | with_reducible apply bel_alloc | with_reducible apply bel_drew | with_reducible apply bel_drewN | ((with_reducible refine bel_set ?_ ?_); rotate_left; (simp <;> omega)) | (with_reducible refine bel_trans ?_ (by with_reducible assumption)))))⟩
  | true =>
   cases c3 : decide (x < (m : Int)) with
   | false =>
    have HV : Hid (hasR (m : Int) rows (x, y) = false) := by show _ = _; rw [HD.out, c3]; simp
    go_enter Tryz.func194, Tryz.ntmps194
    go_wp2_with fail
    go_ret
    exact ⟨by rw [HV.out]; rfl, (by (repeat (first | with_reducible exact Below.refl _ _ | with_reducible assumption | with_reducible apply bel_alloc | with_reducible apply bel_drew | with_reducible apply bel_drewN | ((with_reducible refine bel_set ?_ ?_); rotate_left; (simp <;> omega)) | (with_reducible refine bel_trans ?_ (by with_reducible assumption)))))⟩
   | true =>
    cases c4 : decide (y < (n : Int)) with
    | false =>
     have HV : Hid (hasR (m : Int) rows (x, y) = false) := by show _ = _; rw [HD.out, c4]; simp
     go_enter Tryz.func194, Tryz.ntmps194
     go_wp2_with fail
     go_ret
     exact ⟨by rw [HV.out]; rfl, (by (repeat (first | with_reducible exact Below.refl _ _ | with_reducible assumption | with_reducible apply bel_alloc | with_reducible apply bel_drew | with_reducible apply bel_drewN | ((with_reducible refine bel_set ?_ ?_); rotate_left; (simp <;> omega)) | (with_reducible refine bel_trans ?_ (by with_reducible assumption)))))⟩
    | true =>
     have hx0 := of_decide_eq_true c1
     have hy0 := of_decide_eq_true c2
     have hx1 := of_decide_eq_true c3
     have hy1 := of_decide_eq_true c4
     obtain ⟨p, rfl⟩ := Int.eq_ofNat_of_zero_le hx0
     obtain ⟨q, rfl⟩ := Int.eq_ofNat_of_zero_le hy0
     have hkl : q < rows.length := by rw [HL.out]; omega
     obtain ⟨t, ht, htl⟩ := HROW.out q hkl
     have hgd : (rows.getD ((q : Int)).toNat 0).toNat = t := by rw [Int.toNat_natCast, List.getD_eq_getElem?_getD, List.getElem?_eq_getElem hkl, Option.getD_some, ht]; rfl
     have HV : Hid (hasR (m : Int) rows ((p : Int), (q : Int)) = t.testBit p) := by
      show _ = _
      rw [HD.out, hgd, Int.toNat_natCast, show decide ((0 : Int) ≤ (p : Int)) = true from c1, show decide ((0 : Int) ≤ (q : Int)) = true from c2, c3, c4]
      simp
     have h26 : t < 2 ^ 62 := Nat.lt_of_lt_of_le htl (Nat.pow_le_pow_right (by decide) (by omega))
     have hbit := bit_testP t p h26
     have ht26 : t < 2 ^ 6 := Nat.lt_of_lt_of_le htl (Nat.pow_le_pow_right (by decide) hm6)
     obtain ⟨d, hd⟩ : ∃ d, t / 2 ^ p = d := ⟨_, rfl⟩
     have hdI : (t : Int) / 2 ^ p = (d : Int) := by rw [← hd]; simp
     rw [hdI] at hbit
     have hp64 : (p : Int) ≤ 64 := by omega
     have HRR := HR.out
     obtain ⟨g, off, hA, hg, c9⟩ := RdI.at_ HRR hkl
     rw [ht] at c9
     subst hA
     clear ht htl hgd hd h26 HRR
     go_enter Tryz.func194, Tryz.ntmps194
     go_wp2_with fail
     go_ret
     exact ⟨by rw [HV.out, ← hbit]; rfl, (by (repeat (first | with_reducible exact Below.refl _ _ | with_reducible assumption | with_reducible apply bel_alloc | with_reducible apply bel_drew | with_reducible apply bel_drewN | ((with_reducible refine bel_set ?_ ?_); rotate_left; (simp <;> omega)) | (with_reducible refine bel_trans ?_ (by with_reducible assumption)))))⟩
theorem InRegion_s (W : Int) (A : Option Addr) (n c : Nat) (rows : List Int) (x y : Int) (w : World) (hr : Rd w A (vI rows)) (hl : rows.length = n) (hx : -1000 ≤ x ∧ x ≤ 1000) (hy : -1000 ≤ y ∧ y ≤ 1000) :
  Calls Tryz.prog 179 #[.agg #[.int .i64 W, .slice A n c], .int .i64 x, .int .i64 y] w (Ret w (.bool (isReg W rows && hasR W rows (x, y)))) := by
 have HL := Lib.hid hl
 have HR := Lib.hid (hr.alloc (.cells #[.int .i64 W, .slice A n c] 26))
 have HX := Lib.hid hx
 have HY := Lib.hid hy
 clear hl hr hx hy
 cases hv : isReg W rows with
 | false =>
  have HV := Lib.hid hv
  clear hv
  go_enter Tryz.func179, Tryz.ntmps179
  go_wp2_with fail
  refine (IsRegion_s _ _ _ _ rows _ HR.out HL.out).mono ?_
  rw [HV.out]
  rintro e w1 ⟨rfl, hb1⟩
  go_wp2_with fail
  go_ret
  exact ⟨rfl, (by (repeat (first | with_reducible exact Below.refl _ _ | with_reducible assumption | with_reducible apply bel_alloc | with_reducible apply bel_drew | with_reducible apply bel_drewN | ((with_reducible refine bel_set ?_ ?_); rotate_left; (simp <;> omega)) | (with_reducible refine bel_trans ?_ (by with_reducible assumption)))))⟩
 | true =>
  have HV := Lib.hid hv
  clear hv
  go_enter Tryz.func179, Tryz.ntmps179
  go_wp2_with fail
  refine (IsRegion_s _ _ _ _ rows _ HR.out HL.out).mono ?_
  rw [HV.out]
  rintro e w1 ⟨rfl, hb1⟩
  have hB := (Blk.new w 26 #[.int .i64 W, .slice A n c]).below hb1
  have d0 : w1.cell? ⟨w.heap.size, 0, none⟩ = some (.int .i64 W) := by simpa using hB.cell 0
  have d1 : w1.cell? ⟨w.heap.size, 1, none⟩ = some (.slice A n c) := by simpa using hB.cell 1
  have hgw := hB.lt
  go_wp2_with fail
  refine (l6In_s _ _ _ _ rows x y _ (HR.out.below hb1) HL.out HV.out HX.out HY.out).mono ?_
  rintro e w2 ⟨rfl, hb2⟩
  go_wp2_with fail
  go_ret
  exact ⟨by simp, (by (repeat (first | with_reducible exact Below.refl _ _ | with_reducible assumption | with_reducible apply bel_alloc | with_reducible apply bel_drew | with_reducible apply bel_drewN | ((with_reducible refine bel_set ?_ ?_); rotate_left; (simp <;> omega)) | (with_reducible refine bel_trans ?_ (by with_reducible assumption)))))⟩
theorem mc_num {m n : Nat} {rows : List Int} {x y : Int} (h36 : m * rows.length ≤ 36) (h : hasR (m : Int) rows (x, y) = true) :
  ∃ p q s j : Nat, x = (p : Int) ∧ y = (q : Int) ∧ p < m ∧ (q : Int) * (m : Int) = (s : Int) ∧ (s : Int) + (p : Int) = (j : Int) ∧ posM m (x, y) = j ∧ j < 36 ∧ j < m * rows.length ∧ s ≤ 36 := by
 obtain ⟨p, q, e, h1, h2, h3, h4⟩ := hasR_pos h
 injection e with e1 e2
 exact ⟨p, q, q * m, q * m + p, e1, e2, h1, by simp, by simp, h3, by omega, h4, by omega⟩
theorem MaskOfCells_i (W : Int) (A B : Option Addr) (n c k cb : Nat) (rows : List Int) (cs : List C) (w : World) (hr : Rd w A (vI rows)) (hl : rows.length = n) (hv : isReg W rows = true) (hrc : Rd w B (vC cs)) (hlc : cs.length = k) (hk : k ≤ 1048576) (hs : ∀ d ∈ cs, small d) :
  Calls Tryz.prog 177 #[.agg #[.int .i64 W, .slice A n c], .slice B k cb] w (Ret w (mcR (mcV W rows cs 0))) := by
 have hv0 := hv
 obtain ⟨m, rfl, hm1, hm6, hn1, hn6, hrow⟩ := isReg_yes hv
 have h36 : m * rows.length ≤ 6 * 6 := Nat.mul_le_mul hm6 hn6
 have HL := Lib.hid hl
 have HV := Lib.hid hv0
 have HR := Lib.hid (hr.alloc (.cells #[.int .i64 (m : Int), .slice A n c] 26))
 have HRC := Lib.hid (hrc.alloc (.cells #[.int .i64 (m : Int), .slice A n c] 26))
 have HLC := Lib.hid hlc
 have HS := Lib.hid hs
 have H36 : Hid (m * rows.length ≤ 36) := h36
 have hmt : ((m : Int)).toNat = m := Int.toNat_natCast _
 have HMT := Lib.hid hmt
 clear hl hr hrow hv hv0 hrc hlc hs h36 hn1 hn6 hmt
 go_enter Tryz.func177, Tryz.ntmps177
 go_wp2_with fail
 refine (IsRegion_i _ _ _ _ rows _ HR.out HL.out).mono ?_
 rw [HV.out]
 rintro e w1 ⟨rfl, hb1⟩
 have HB1 := Lib.hid ((Blk.new w 26 #[.int .i64 (m : Int), .slice A n c]).below hb1)
 have HR1 := Lib.hid (HR.out.below hb1)
 have HRC1 := Lib.hid (HRC.out.below hb1)
 have hbw1 : Below w.heap.size w w1 := bel_trans (bel_alloc (Below.refl _ _) _) hb1
 clear hb1
 go_wp2_with fail
 go_loopw [14, 6] (fun e14 e6 wr => ∃ (i v : Nat), i ≤ k ∧ e14 = .int .i64 i ∧ e6 = .int .i64 (v : Int) ∧ v < 2 ^ (m * rows.length) ∧ mcV (m : Int) rows cs 0 = mcV (m : Int) rows (cs.drop i) v ∧ Below w1.heap.size w1 wr) (fun e14 _ _ => k - (intOf e14).toNat)
 case atStart => exact ⟨0, 0, Nat.zero_le _, rfl, rfl, Nat.pow_pos (by decide), rfl, Below.refl _ _⟩
 case round =>
  obtain ⟨i, v, hi, rfl, rfl, hvl, hmc, hb⟩ := hrel
  have hv36 : v < 2 ^ 36 := Nat.lt_of_lt_of_le hvl (Nat.pow_le_pow_right (by decide) H36.out)
  by_cases hlt : i < k
  ·have hkl : i < cs.length := by rw [HLC.out]; exact hlt
   have hi0 : (0 : Int) ≤ (i : Int) := by omega
   have hi1 : (i : Int) < (k : Int) := by omega
   obtain ⟨g, off, hA, hg, d1, d2⟩ := RdC.at_ (HRC1.out.below hb) hkl
   have hsm := HS.out _ (List.getElem_mem hkl)
   rw [List.drop_eq_getElem_cons hkl] at hmc
   obtain ⟨x, hx⟩ : ∃ x, cs[i].1 = x := ⟨_, rfl⟩
   obtain ⟨y, hy⟩ : ∃ y, cs[i].2 = y := ⟨_, rfl⟩
   rw [show cs[i] = (x, y) from Prod.ext hx hy] at hmc hsm
   rw [hx] at d1
   rw [hy] at d2
   unfold small at hsm
   simp only at hsm
   have hNO : (hasR (m : Int) rows (x, y) && !v.testBit (posM m (x, y))) = false → mcV (m : Int) rows cs 0 = none := fun h => by rw [hmc]; exact mcV_no (by rw [HMT.out]; exact h)
   have hYES : (hasR (m : Int) rows (x, y) && !v.testBit (posM m (x, y))) = true → mcV (m : Int) rows cs 0 = mcV (m : Int) rows (cs.drop (i + 1)) (v + 2 ^ posM m (x, y)) := fun h => by rw [hmc, mcV_yes (by rw [HMT.out]; exact h), HMT.out]
   have HNO := Lib.hid hNO
   have HYES := Lib.hid hYES
   have HSX := Lib.hid hsm.1
   have HSY := Lib.hid hsm.2
   have hB := HB1.out.below hb
   have b0 : wr.cell? ⟨w.heap.size, 0, none⟩ = some (.int .i64 (m : Int)) := by simpa using hB.cell 0
   have b1 : wr.cell? ⟨w.heap.size, 1, none⟩ = some (.slice A n c) := by simpa using hB.cell 1
   have hgw := hB.lt
   have HVL := Lib.hid hvl
   subst hA
   clear hmc hx hy hsm hB hNO hYES hvl
   cases hh : hasR (m : Int) rows (x, y) with
   | false =>
    have HH := Lib.hid hh
    have HN := Lib.hid (HNO.out (by rw [hh]; rfl))
    clear hh HNO HYES
    go_wp2_with fail
    refine (has_i (m : Int) A n c rows x y _ ((HR1.out.below hb).alloc _) HL.out HV.out HSX.out HSY.out).mono ?_
    rw [HH.out]
    rintro e w2 ⟨rfl, hb2⟩
    go_wp2_with fail
    go_ret2
    exact ⟨by rw [HN.out]; rfl, bel_trans hbw1 (bel_trans hb (bel_trans (bel_alloc (Below.refl _ _) _) hb2))⟩
   | true =>
    have HH := Lib.hid hh
    obtain ⟨p, q, s, j, rfl, rfl, hpm, hs, hj, hpos, hj36, hjl, hs36⟩ := mc_num H36.out hh (n := n)
    have hj0 : (0 : Int) ≤ (j : Int) := by omega
    have hj64 : (j : Int) ≤ 64 := by omega
    have hv62 : v < 2 ^ 62 := by omega
    have hbit := bit_testP v j hv62
    obtain ⟨d, hd⟩ : ∃ d, v / 2 ^ j = d := ⟨_, rfl⟩
    have hdI : (v : Int) / 2 ^ j = (d : Int) := by rw [← hd]; simp
    rw [hdI] at hbit
    have es : IntKind.i64.wrap (s : Int) = (s : Int) := Go.IntWalk.i64_in _ (by omega)
    have ej : IntKind.i64.wrap (j : Int) = (j : Int) := Go.IntWalk.i64_in _ (by omega)
    have h2j : (2 : Nat) ^ j < 2 ^ 36 := Nat.pow_lt_pow_right (by decide) hj36
    obtain ⟨t, ht⟩ : ∃ t : Nat, 2 ^ j = t := ⟨_, rfl⟩
    have htI : (2 : Int) ^ j = (t : Int) := by rw [← ht]; simp
    have hdT : (v : Int) / (t : Int) = (d : Int) := by rw [← htI]; exact hdI
    clear hdI
    rw [hpos] at HNO HYES
    rw [ht] at HYES
    have hTT : v.testBit j = false → v ||| t = v + t ∧ v + t < 2 ^ (m * rows.length) := fun h => by
     have h1 := or_bit hv62 (by omega) h
     rw [ht] at h1
     refine ⟨h1, ?_⟩
     rw [← h1, ← ht]
     exact Nat.or_lt_two_pow HVL.out (Nat.pow_lt_pow_right (by decide) hjl)
    have HTT := Lib.hid hTT
    rw [ht] at h2j
    clear hh hpos hd ht hTT
    cases hb2 : v.testBit j with
    | true =>
     have HN := Lib.hid (HNO.out (by rw [HH.out, hb2]; rfl))
     rw [hb2] at hbit
     clear hb2 HNO HYES HTT
     go_wp2_with fail
     refine (has_i (m : Int) A n c rows (p : Int) (q : Int) _ ((HR1.out.below hb).alloc _) HL.out HV.out HSX.out HSY.out).mono ?_
     rw [HH.out]
     rintro e w2 ⟨rfl, hb2⟩
     have hDK := (Blk.new wr 87 #[.int .i64 (p : Int), .int .i64 (q : Int)]).below hb2
     have c0 : w2.cell? ⟨wr.heap.size, 0, none⟩ = some (.int .i64 (p : Int)) := by simpa using hDK.cell 0
     have c1 : w2.cell? ⟨wr.heap.size, 1, none⟩ = some (.int .i64 (q : Int)) := by simpa using hDK.cell 1
     have cl := hDK.lt
     have y0 := keep_below hb2 (keep_alloc (o := .cells #[.int .i64 (p : Int), .int .i64 (q : Int)] 87) b0)
     have yl : w.heap.size < w2.heap.size := by omega
     clear hDK d1 d2 b0 b1
     go_wp2_with fail
     go_ret2
     exact ⟨by rw [HN.out]; rfl, bel_trans hbw1 (bel_trans hb (bel_trans (bel_alloc (Below.refl _ _) _) hb2))⟩
    | false =>
     have HN := Lib.hid (HYES.out (by rw [HH.out, hb2]; rfl))
     rw [hb2] at hbit
     obtain ⟨h1, h2⟩ := HTT.out hb2
     have hor : bits .or .i64 (v : Int) (t : Int) = ((v + t : Nat) : Int) := by rw [i64_or v t (by omega) (by omega), h1]
     have H2 := Lib.hid h2
     have HOR := Lib.hid hor
     clear hb2 HNO HYES HTT h1 h2 hor
     go_wp2_with fail
     refine (has_i (m : Int) A n c rows (p : Int) (q : Int) _ ((HR1.out.below hb).alloc _) HL.out HV.out HSX.out HSY.out).mono ?_
     rw [HH.out]
     rintro e w2 ⟨rfl, hb2⟩
     have hDK := (Blk.new wr 87 #[.int .i64 (p : Int), .int .i64 (q : Int)]).below hb2
     have c0 : w2.cell? ⟨wr.heap.size, 0, none⟩ = some (.int .i64 (p : Int)) := by simpa using hDK.cell 0
     have c1 : w2.cell? ⟨wr.heap.size, 1, none⟩ = some (.int .i64 (q : Int)) := by simpa using hDK.cell 1
     have cl := hDK.lt
     have y0 := keep_below hb2 (keep_alloc (o := .cells #[.int .i64 (p : Int), .int .i64 (q : Int)] 87) b0)
     have yl : w.heap.size < w2.heap.size := by omega
     have hor := HOR.out
     clear hDK d1 d2 b0 b1
     go_wp2_with fail
     exact ⟨⟨i + 1, v + t, by omega, by go_num, rfl, H2.out, HN.out, bel_trans hb (bel_trans (bel_alloc (Below.refl _ _) _) hb2)⟩, by simp [intOf]; omega⟩
  ·obtain rfl : i = k := by omega
   rw [List.drop_of_length_le (by rw [HLC.out]; omega)] at hmc
   have HN := Lib.hid hmc
   have hi1 : ¬ (i : Int) < (i : Int) := by omega
   clear hmc hvl
   go_wp2_with fail
   go_ret2
   exact ⟨by rw [HN.out]; rfl, bel_trans hbw1 hb⟩
theorem MaskOfCells_s (W : Int) (A B : Option Addr) (n c k cb : Nat) (rows : List Int) (cs : List C) (w : World) (hr : Rd w A (vI rows)) (hl : rows.length = n) (hv : isReg W rows = true) (hrc : Rd w B (vC cs)) (hlc : cs.length = k) (hk : k ≤ 1048576) (hs : ∀ d ∈ cs, small d) :
  Calls Tryz.prog 136 #[.agg #[.int .i64 W, .slice A n c], .slice B k cb] w (Ret w (mcR (mcV W rows cs 0))) := by
 have hv0 := hv
 obtain ⟨m, rfl, hm1, hm6, hn1, hn6, hrow⟩ := isReg_yes hv
 have h36 : m * rows.length ≤ 6 * 6 := Nat.mul_le_mul hm6 hn6
 have HL := Lib.hid hl
 have HV := Lib.hid hv0
 have HR := Lib.hid (hr.alloc (.cells #[.int .i64 (m : Int), .slice A n c] 26))
 have HRC := Lib.hid (hrc.alloc (.cells #[.int .i64 (m : Int), .slice A n c] 26))
 have HLC := Lib.hid hlc
 have HS := Lib.hid hs
 have H36 : Hid (m * rows.length ≤ 36) := h36
 have hmt : ((m : Int)).toNat = m := Int.toNat_natCast _
 have HMT := Lib.hid hmt
 have HB1 := Lib.hid (Blk.new w 26 #[.int .i64 (m : Int), .slice A n c])
 have hbw1 : Below w.heap.size w (w.alloc (.cells #[.int .i64 (m : Int), .slice A n c] 26)) := bel_alloc (Below.refl _ _) _
 clear hl hr hrow hv hv0 hrc hlc hs h36 hn1 hn6 hmt
 go_enter Tryz.func136, Tryz.ntmps136
 go_wp2_with fail
 obtain ⟨w1, hw1⟩ : ∃ w1, w.alloc (.cells #[.int .i64 (m : Int), .slice A n c] 26) = w1 := ⟨_, rfl⟩
 rw [hw1] at HR HRC HB1 hbw1 ⊢
 clear hw1
 go_loopw [7, 6] (fun e14 e6 wr => ∃ (i v : Nat), i ≤ k ∧ e14 = .int .i64 i ∧ e6 = .int .i64 (v : Int) ∧ v < 2 ^ (m * rows.length) ∧ mcV (m : Int) rows cs 0 = mcV (m : Int) rows (cs.drop i) v ∧ Below w1.heap.size w1 wr) (fun e14 _ _ => k - (intOf e14).toNat)
 case atStart => exact ⟨0, 0, Nat.zero_le _, rfl, rfl, Nat.pow_pos (by decide), rfl, Below.refl _ _⟩
 case round =>
  obtain ⟨i, v, hi, rfl, rfl, hvl, hmc, hb⟩ := hrel
  have hv36 : v < 2 ^ 36 := Nat.lt_of_lt_of_le hvl (Nat.pow_le_pow_right (by decide) H36.out)
  have hB := HB1.out.below hb
  have b0 : wr.cell? ⟨w.heap.size, 0, none⟩ = some (.int .i64 (m : Int)) := by simpa using hB.cell 0
  have b1 : wr.cell? ⟨w.heap.size, 1, none⟩ = some (.slice A n c) := by simpa using hB.cell 1
  have hgw := hB.lt
  clear hB
  by_cases hlt : i < k
  ·have hkl : i < cs.length := by rw [HLC.out]; exact hlt
   have hi0 : (0 : Int) ≤ (i : Int) := by omega
   have hi1 : (i : Int) < (k : Int) := by omega
   obtain ⟨g, off, hA, hg, d1, d2⟩ := RdC.at_ (HRC.out.below hb) hkl
   have hsm := HS.out _ (List.getElem_mem hkl)
   rw [List.drop_eq_getElem_cons hkl] at hmc
   obtain ⟨x, hx⟩ : ∃ x, cs[i].1 = x := ⟨_, rfl⟩
   obtain ⟨y, hy⟩ : ∃ y, cs[i].2 = y := ⟨_, rfl⟩
   rw [show cs[i] = (x, y) from Prod.ext hx hy] at hmc hsm
   rw [hx] at d1
   rw [hy] at d2
   unfold small at hsm
   simp only at hsm
   have hNO : (hasR (m : Int) rows (x, y) && !v.testBit (posM m (x, y))) = false → mcV (m : Int) rows cs 0 = none := fun h => by rw [hmc]; exact mcV_no (by rw [HMT.out]; exact h)
   have hYES : (hasR (m : Int) rows (x, y) && !v.testBit (posM m (x, y))) = true → mcV (m : Int) rows cs 0 = mcV (m : Int) rows (cs.drop (i + 1)) (v + 2 ^ posM m (x, y)) := fun h => by rw [hmc, mcV_yes (by rw [HMT.out]; exact h), HMT.out]
   have HNO := Lib.hid hNO
   have HYES := Lib.hid hYES
   have HSX := Lib.hid hsm.1
   have HSY := Lib.hid hsm.2
   have HVL := Lib.hid hvl
   subst hA
   clear hmc hx hy hsm hNO hYES hvl
   cases hh : hasR (m : Int) rows (x, y) with
   | false =>
    have HIR : Hid (∀ w0, Below wr.heap.size wr w0 → Calls Tryz.prog 179 #[.agg #[.int .i64 (m : Int), .slice A n c], .int .i64 x, .int .i64 y] w0 (Ret w0 (.bool false))) := fun w0 h => by
     have h2 := InRegion_s (m : Int) A n c rows x y w0 ((HR.out.below hb).below h) HL.out HSX.out HSY.out
     rw [HV.out, hh] at h2
     exact h2
    have HN := Lib.hid (HNO.out (by rw [hh]; rfl))
    clear hh HNO HYES
    go_wp2_with fail
    (refine wp_region_below (by kernel_rfl) (by kernel_rfl) ?_; (repeat (first | go_big_quiet_skip | (refine quietV (v := ?_) (by rfl) rfl (fun w' hbw => ?_) ?_; rotate_left; ((try dsimp only at hbw); have hbc := (bcell hbw).1; have hbf := (bcell hbw).2; go_simp; first | done | with_reducible rfl | (with_reducible exact callsB (v := .bool false) (HIR.out _ hbw) hbw)); simp only [sq1, sq2, sq3]))); refine wpQuiet_nil ?_; intro wq hbq)
    go_wp2_with fail
    go_ret2
    exact ⟨by rw [HN.out]; rfl, bel_trans hbw1 (bel_trans hb hbq)⟩
   | true =>
    have HH := Lib.hid hh
    obtain ⟨p, q, s, j, rfl, rfl, hpm, hs, hj, hpos, hj36, hjl, hs36⟩ := mc_num H36.out hh (n := n)
    have HIR : Hid (∀ w0, Below wr.heap.size wr w0 → Calls Tryz.prog 179 #[.agg #[.int .i64 (m : Int), .slice A n c], .int .i64 (p : Int), .int .i64 (q : Int)] w0 (Ret w0 (.bool true))) := fun w0 h => by
     have h2 := InRegion_s (m : Int) A n c rows (p : Int) (q : Int) w0 ((HR.out.below hb).below h) HL.out HSX.out HSY.out
     rw [HV.out, hh] at h2
     exact h2
    have hj0 : (0 : Int) ≤ (j : Int) := by omega
    have hj64 : (j : Int) ≤ 64 := by omega
    have hv62 : v < 2 ^ 62 := by omega
    have hbit := bit_testP v j hv62
    obtain ⟨d, hd⟩ : ∃ d, v / 2 ^ j = d := ⟨_, rfl⟩
    have hdI : (v : Int) / 2 ^ j = (d : Int) := by rw [← hd]; simp
    rw [hdI] at hbit
    have es : IntKind.i64.wrap (s : Int) = (s : Int) := Go.IntWalk.i64_in _ (by omega)
    have ej : IntKind.i64.wrap (j : Int) = (j : Int) := Go.IntWalk.i64_in _ (by omega)
    have h2j : (2 : Nat) ^ j < 2 ^ 36 := Nat.pow_lt_pow_right (by decide) hj36
    obtain ⟨t, ht⟩ : ∃ t : Nat, 2 ^ j = t := ⟨_, rfl⟩
    have htI : (2 : Int) ^ j = (t : Int) := by rw [← ht]; simp
    have hdT : (v : Int) / (t : Int) = (d : Int) := by rw [← htI]; exact hdI
    rw [hpos] at HNO HYES
    rw [ht] at HYES
    have hTT : v.testBit j = false → v + t < 2 ^ (m * rows.length) := fun h => by
     have h1 := or_bit hv62 (by omega) h
     rw [ht] at h1
     rw [← h1, ← ht]
     exact Nat.or_lt_two_pow HVL.out (Nat.pow_lt_pow_right (by decide) hjl)
    have HTT := Lib.hid hTT
    rw [ht] at h2j
    have et : IntKind.i64.wrap (t : Int) = (t : Int) := Go.IntWalk.i64_in _ (by omega)
    obtain ⟨u, hu⟩ : ∃ u, u = v + t := ⟨_, rfl⟩
    have huI : (v : Int) + (t : Int) = (u : Int) := by omega
    have eu : IntKind.i64.wrap (u : Int) = (u : Int) := Go.IntWalk.i64_in _ (by omega)
    rw [← hu] at HTT HYES
    clear hh hpos hd ht hTT hu hdI
    cases hb2 : v.testBit j with
    | true =>
     have HN := Lib.hid (HNO.out (by rw [HH.out, hb2]; rfl))
     rw [hb2] at hbit
     clear hb2 HNO HYES HTT
     go_wp2_with fail
     (refine wp_region_below (by kernel_rfl) (by kernel_rfl) ?_; (repeat (first | go_big_quiet_skip | (refine quietV (v := ?_) (by rfl) rfl (fun w' hbw => ?_) ?_; rotate_left; ((try dsimp only at hbw); have hbc := (bcell hbw).1; have hbf := (bcell hbw).2; go_simp; first | done | with_reducible rfl | (with_reducible exact callsB (v := .bool true) (HIR.out _ hbw) hbw)); simp only [sq1, sq2, sq3]))); refine wpQuiet_nil ?_; intro wq hbq)
     go_wp2_with fail
     go_ret2
     exact ⟨by rw [HN.out]; rfl, bel_trans hbw1 (bel_trans hb hbq)⟩
    | false =>
     have HN := Lib.hid (HYES.out (by rw [HH.out, hb2]; rfl))
     rw [hb2] at hbit
     have H2 := Lib.hid (HTT.out hb2)
     clear hb2 HNO HYES HTT
     go_wp2_with fail
     (refine wp_region_below (by kernel_rfl) (by kernel_rfl) ?_; (repeat (first | go_big_quiet_skip | (refine quietV (v := ?_) (by rfl) rfl (fun w' hbw => ?_) ?_; rotate_left; ((try dsimp only at hbw); have hbc := (bcell hbw).1; have hbf := (bcell hbw).2; go_simp; first | done | with_reducible rfl | (with_reducible exact callsB (v := .bool true) (HIR.out _ hbw) hbw)); simp only [sq1, sq2, sq3]))); refine wpQuiet_nil ?_; intro wq hbq)
     have b0' := keep_below hbq b0
     have d1' := keep_below hbq d1
     have d2' := keep_below hbq d2
     have hgw' : w.heap.size < wq.heap.size := Nat.lt_of_lt_of_le hgw hbq.size
     have hg' : g < wq.heap.size := Nat.lt_of_lt_of_le hg hbq.size
     clear b0 b1 d1 d2 HIR
     go_wp2_with fail
     (refine wp_region_below (by kernel_rfl) (by kernel_rfl) ?_; (repeat (first | go_big_quiet_skip | (refine quietV (v := ?_) (by rfl) rfl (fun w' hbw => ?_) ?_; rotate_left; ((try dsimp only at hbw); have hbc := (bcell hbw).1; have hbf := (bcell hbw).2; go_simp; first | done | with_reducible rfl | fail); simp only [sq1, sq2, sq3]))); refine wpQuiet_nil ?_; intro wz hbz)
     go_wp2_with fail
     exact ⟨⟨i + 1, u, by omega, by go_num, by first | rfl | (simp <;> omega), H2.out, HN.out, bel_trans hb (bel_trans hbq hbz)⟩, by simp [intOf]; omega⟩
  ·obtain rfl : i = k := by omega
   rw [List.drop_of_length_le (by rw [HLC.out]; omega)] at hmc
   have HN := Lib.hid hmc
   have hi1 : ¬ (i : Int) < (i : Int) := by omega
   clear hmc hvl
   go_wp2_with fail
   refine (IsRegion_s _ _ _ _ rows _ (HR.out.below hb) HL.out).mono ?_
   rw [HV.out]
   rintro e w2 ⟨rfl, hb2⟩
   go_wp2_with fail
   go_ret2
   exact ⟨by rw [HN.out]; rfl, bel_trans hbw1 (bel_trans hb hb2)⟩
end

section
attribute [local go_sem ↓] Go.wp_at_zero Go.wp_at_succ
section
variable {ops : Array Oper} {o : Oper} {a : Act} {w : World} {K : Act → World → Prop} {Q : Exit → Act → World → Prop} {E : Prop}
theorem step_appI (hg : o.guard = none) (s x : Operand) (ho : o.op = .call { callee := .builtin .append, args := #[s, x], argTypes := #[24, 24] })
  (base : Nat) (A : Option Addr) (n c : Nat) (l : List Int) (hs : a.eval s = .slice A n c) (hown : w.ownsRow base 3 1 (.slice A n c) n (vI l))
  (A2 : Option Addr) (m c2 : Nat) (l2 : List Int) (hx : a.eval x = .slice A2 m c2) (hr : Rd w A2 (vI l2)) (hl : l2.length = m) (hb : n + m ≤ 1099511627776) (hbase : base ≤ w.heap.size)
  (h : ∀ A' c' w', w'.ownsRow base 3 1 (.slice A' (n + m) c') (n + m) (vI (l ++ l2)) → w.grownBy w' (ob A) → (ob A' = ob A ∨ ob A' = some w.heap.size) → K (a.put o.dst (.slice A' (n + m) c')) w') :
  if Region.wanted o (yielded ops a.tmps) = true then Oper.wp Tryz.prog o a w K Q else E := by
 rw [if_pos (by simp [Region.wanted, hg])]
 obtain ⟨i0, hi, hz0, hz1, hz2⟩ := info_parts infoI
 refine wp_app w s x _ ho base _ i0 _ 1 8 Tryz.underlying24 hi hz0 hz1 hz2 rfl (by omega) A n c _ hs hown A2 m c2 _ hx hr (by rw [vI_length, hl]; omega) (vI_one _) (by unfold maxLen; omega) (by omega) hbase ?_
 intro A' c' w' h1
 rw [← vI_append] at h1
 exact h A' c' w' h1
end
theorem at_or {A D : Option Addr} {n m : Nat} (h : ob A = ob D ∨ ob A = some n) (hmn : m ≤ n) : ob A = ob D ∨ ∀ g, ob A = some g → m ≤ g := by
 rcases h with h | h
 ·exact .inl h
 ·refine .inr fun g e => ?_
  rw [h] at e
  injection e with e
  omega
end

section
attribute [local go_sem ↓] Go.wp_at_zero Go.wp_at_succ
theorem shl1 (m : Nat) (hm : m ≤ 6) : ∃ v : Int, (2 : Int) ^ m = v ∧ 1 ≤ v ∧ v ≤ 64 := by
 have h1 : (2 : Nat) ^ m ≤ 2 ^ 6 := Nat.pow_le_pow_right (by decide) hm
 have h2 : 0 < (2 : Nat) ^ m := Nat.pow_pos (by decide)
 refine ⟨((2 ^ m : Nat) : Int), by simp, by omega, by omega⟩
def OkR (m : Nat) (rows : List Int) : Prop := ∀ z ∈ rows, 0 ≤ z ∧ z < (2 : Int) ^ m
theorem okR_reg {m : Nat} {rows : List Int} (h : OkR m rows) (h1 : 1 ≤ m) (h2 : m ≤ 6) (h3 : 1 ≤ rows.length) (h4 : rows.length ≤ 6) : isReg (m : Int) rows = true := by
 unfold isReg
 simp only [Bool.and_eq_true, decide_eq_true_eq, List.all_eq_true, Int.toNat_natCast]
 exact ⟨⟨⟨by omega, by omega⟩, by omega, by omega⟩, fun x hx => h x hx⟩
theorem okR_snoc {m : Nat} {rows : List Int} {z : Int} (h : OkR m rows) (hz : 0 ≤ z ∧ z < (2 : Int) ^ m) : OkR m (rows ++ [z]) := by
 intro x hx
 rcases List.mem_append.1 hx with hx | hx
 ·exact h x hx
 ·rw [List.mem_singleton] at hx; rw [hx]; exact hz
theorem okR_put {m x y : Nat} {rows : List Int} (h : OkR m rows) (hm : m ≤ 6) (hx : x < m) (hy : y < rows.length) (hb : hasR (m : Int) rows ((x : Int), (y : Int)) = true) :
  OkR m (rows.set y (wrap64 (rows[y] - (2 : Int) ^ x))) := by
 unfold hasR at hb
 simp only [Bool.and_eq_true, decide_eq_true_eq, Int.toNat_natCast] at hb
 have hbit := hb.2
 rw [List.getD_eq_getElem?_getD, List.getElem?_eq_getElem hy, Option.getD_some] at hbit
 obtain ⟨h0, h1⟩ := h _ (List.getElem_mem hy)
 obtain ⟨z, hz⟩ := Int.eq_ofNat_of_zero_le h0
 rw [hz, Int.toNat_natCast] at hbit
 have h2 := Nat.ge_two_pow_of_testBit hbit
 have e1 : ((2 ^ x : Nat) : Int) = (2 : Int) ^ x := by simp
 have h64 : (2 : Nat) ^ m ≤ 2 ^ 6 := Nat.pow_le_pow_right (by decide) hm
 have e2 : ((2 ^ m : Nat) : Int) = (2 : Int) ^ m := by simp
 have h5 : 0 < (2 : Nat) ^ x := Nat.pow_pos (by decide)
 have h3 : wrap64 (rows[y] - (2 : Int) ^ x) = rows[y] - (2 : Int) ^ x := IntWalk.wrap64_in _ (by rw [← e1]; omega)
 rw [h3]
 intro a ha
 rcases List.mem_or_eq_of_mem_set ha with ha | ha
 ·exact h a ha
 ·subst ha
  omega
def RetRgB (w : World) (m : Nat) (k : Nat) (e : Ending) (w' : World) : Prop :=
 ∃ D cD rows b, e = .returned (.tuple #[.agg #[.int .i64 (m : Int), .slice D k cD], .bool b]) ∧ w'.ownsRow w.heap.size 3 1 (.slice D k cD) k (vI rows) ∧ Below w.heap.size w w' ∧ OkR m rows
theorem RectangleOf_s (m h : Nat) (w : World) (hm1 : 1 ≤ m) (hm : m ≤ 6) (hh1 : 1 ≤ h) (hh : h ≤ 6) : Calls Tryz.prog 189 #[.int .i64 (m : Int), .int .i64 (h : Int)] w (RetRgB w m h) := by
 have hB0 := Blk.new w 26 #[.int .i64 0, .slice none 0 0]
 have HB0 := Lib.hid hB0
 have hb0 : Below w.heap.size w (w.alloc (.cells #[.int .i64 0, .slice none 0 0] 26)) := bel_alloc (Below.refl _ _) _
 have hm0 : (0 : Int) ≤ (m : Int) := by omega
 have hm64 : (m : Int) ≤ 64 := by omega
 have em : IntKind.i64.wrap (m : Int) = (m : Int) := Go.IntWalk.i64_in _ (by omega)
 obtain ⟨v, hv, hv1, hv64⟩ := shl1 m hm
 have ev : IntKind.i64.wrap v = v := Go.IntWalk.i64_in _ (by omega)
 have HV := Lib.hid hv
 have i1 := fun u => l1In_t (m : Int) 1 6 u (by omega) (by omega)
 have i2 := fun u => l1In_t (h : Int) 1 6 u (by omega) (by omega)
 have I1 := Lib.hid i1
 have I2 := Lib.hid i2
 clear i1 i2 hv hB0
 go_enter Tryz.func189, Tryz.ntmps189
 go_wp2_with fail
 refine (I1.out _).mono ?_
 rintro e w1 ⟨rfl, hb1⟩
 go_wp2_with fail
 refine (I2.out _).mono ?_
 rintro e w2 ⟨rfl, hb2⟩
 have HB2 := Lib.hid (bel_trans hb0 (bel_trans hb1 hb2))
 have HBK := Lib.hid (HB0.out.below (bel_trans hb1 hb2))
 clear hb0 hb1 hb2
 have hlow : w.heap.size < w2.heap.size := HBK.out.lt
 have HBN := Lib.hid (Blk.new w2 26 #[.int .i64 (m : Int), .slice none 0 0])
 go_wp2_with fail
 go_loopw [7] (fun e7 wr => ∃ (y cD : Nat) (D : Option Addr) (rows : List Int), y ≤ h ∧ e7 = .int .i64 y ∧ Blk wr w2.heap.size 26 #[.int .i64 (m : Int), .slice D y cD] ∧ wr.ownsRow (w2.heap.size + 1) 3 1 (.slice D y cD) y (vI rows) ∧ Blk wr w.heap.size 26 #[.int .i64 0, .slice none 0 0] ∧ Below w.heap.size w wr ∧ w2.heap.size < wr.heap.size ∧ OkR m rows) (fun e7 _ => h - (intOf e7).toNat)
 case atStart => exact ⟨0, 0, none, [], Nat.zero_le _, rfl, HBN.out, own_nil _ _ _ _, HBK.out.alloc _, bel_alloc HB2.out _, by simp, fun z hz => by cases hz⟩
 case round =>
  clear HBN HBK
  obtain ⟨y, cD, D, rows, hy, rfl, hBr, hO, hBz, hb, hsz, hok⟩ := hrel
  have HOK := Lib.hid hok
  clear hok
  have HBR := Lib.hid hBr
  have HO := Lib.hid hO
  have HBZ := Lib.hid hBz
  have HB := Lib.hid hb
  have c0 : wr.cell? ⟨w2.heap.size, 0, none⟩ = some (.int .i64 (m : Int)) := by simpa using hBr.cell 0
  have c1 : wr.cell? ⟨w2.heap.size, 1, none⟩ = some (.slice D y cD) := by simpa using hBr.cell 1
  have f1 := hBr.frozen 1
  clear hBr hO hBz hb
  by_cases hlt : y < h
  ·have hy1 : (y : Int) < (h : Int) := by omega
   have hvI : (1 : Int) * 2 ^ m = v := by rw [Int.one_mul]; exact HV.out
   go_wp2_with fail
   go_region_law ((refine step_appI rfl (.tmp 25) (.tmp 29) rfl (w2.heap.size + 1) D y cD rows (by simp [Act.eval]) (own_keep HO.out (bel_alloc (bel_drew (Below.refl _ _)) _)) (some ⟨wr.heap.size, 0, none⟩) 1 1 [IntKind.i64.wrap (v - 1)] (by simp [Act.eval]) (rd_newI _ _ _) rfl (by omega) (by simp; omega) ?_); intro D8 c8 w8 ho8 hg8 hat8; have HO8 := Lib.hid ho8; have HG8 := Lib.hid hg8; clear ho8 hg8 hat8; have HB8 := Lib.hid ((HBR.out.below (bel_alloc (bel_drew (Below.refl _ _)) _)).grown HG8.out (fun e => by have h9 := (own_lt HO.out _ e.symm).1; omega)); have d8 : w8.cell? ⟨w2.heap.size, 1, none⟩ = some (.slice D y cD) := (by simpa using HB8.out.cell 1); have f8 : w8.frozen? ⟨w2.heap.size, 1, none⟩ = false := HB8.out.frozen 1; have l8 : w2.heap.size < w8.heap.size := HB8.out.lt)
   all_goals
    have hP : Blk (w8.setCell ⟨w2.heap.size, 1, none⟩ (.slice D8 (y + 1) c8)) w2.heap.size 26 #[.int .i64 (m : Int), .slice D8 (y + 1) c8] := HB8.out.set_ 1 _
    have hg2 : wr.grownBy w8 (ob D) := ⟨HG8.out.os, HG8.out.tape, HG8.out.output, by have h3 := HG8.out.size; simp at h3; omega, fun k hk hn => (HG8.out.block k (by simp; omega) hn).trans (Below.heap_alloc wr _ k hk)⟩
    have hZ8 := (HBZ.out.grown hg2 (fun e => by have h9 := (own_lt HO.out _ e.symm).1; omega)).far (p := ⟨w2.heap.size, 1, none⟩) (by show w.heap.size ≠ w2.heap.size; omega) (.slice D8 (y + 1) c8)
    have hO8 := own_set HO8.out (p := ⟨w2.heap.size, 1, none⟩) (fun g e => by have h9 := (own_lt HO8.out g e).1; show g ≠ w2.heap.size; omega) (.slice D8 (y + 1) c8)
    have hb8 : Below w.heap.size w (w8.setCell ⟨w2.heap.size, 1, none⟩ (.slice D8 (y + 1) c8)) := bel_set (bel_grown HB.out hg2 (fun g e => by have h9 := (own_lt HO.out g e).1; omega)) (by show w.heap.size ≤ w2.heap.size; omega)
    have HP := Lib.hid hP
    have HZ8 := Lib.hid hZ8
    have HO9 := Lib.hid hO8
    have HB9 := Lib.hid hb8
    clear hP hg2 hZ8 hO8 hb8
    go_wp2_with fail
    exact ⟨⟨y + 1, c8, D8, _, by omega, by go_num, HP.out, HO9.out, HZ8.out, HB9.out, by simpa using l8, okR_snoc HOK.out (by rw [Go.IntWalk.i64_in _ (by omega), HV.out]; omega)⟩, by simp [intOf]; omega⟩
  ·obtain rfl : y = h := by omega
   have hy1 : ¬ (y : Int) < (y : Int) := by omega
   have z0 : wr.cell? ⟨w.heap.size, 0, none⟩ = some (.int .i64 0) := by simpa using HBZ.out.cell 0
   have z1 : wr.cell? ⟨w.heap.size, 1, none⟩ = some (.slice none 0 0) := by simpa using HBZ.out.cell 1
   have g0 := HBZ.out.frozen 0
   have g1 := HBZ.out.frozen 1
   have hD := (HBZ.out.set_ 0 (.int .i64 (m : Int))).set_ 1 (.slice D y cD)
   have e0 : ((wr.setCell ⟨w.heap.size, 0, none⟩ (.int .i64 (m : Int))).setCell ⟨w.heap.size, 1, none⟩ (.slice D y cD)).cell? ⟨w.heap.size, 0, none⟩ = some (.int .i64 (m : Int)) := by simpa using hD.cell 0
   have e1 : ((wr.setCell ⟨w.heap.size, 0, none⟩ (.int .i64 (m : Int))).setCell ⟨w.heap.size, 1, none⟩ (.slice D y cD)).cell? ⟨w.heap.size, 1, none⟩ = some (.slice D y cD) := by simpa using hD.cell 1
   have E0 := Lib.hid e0
   have E1 := Lib.hid e1
   clear hD e0 e1
   go_wp2_with fail
   have e0 := E0.out
   have e1 := E1.out
   have ne : ∀ g, ob D = some g → g ≠ w.heap.size := fun g e => by have := (own_lt HO.out g e).1; omega
   exact bodyPost_ret (v := .tuple #[.agg #[.int .i64 (m : Int), .slice D y cD], .bool true]) (by simp [results, Tryz.results189, go_sem, e0, e1]) rfl
    ⟨_, _, _, _, rfl, own_set (own_set (own_base HO.out (by omega)) ne _) ne _, bel_set (bel_set HB.out (Nat.le_refl _)) (Nat.le_refl _), HOK.out⟩
def RetRg (w : World) (W : Int) (k : Nat) (rows : List Int) (e : Ending) (w' : World) : Prop :=
 ∃ D cD, e = .returned (.agg #[.int .i64 W, .slice D k cD]) ∧ w'.ownsRow w.heap.size 3 1 (.slice D k cD) k (vI rows) ∧ Below w.heap.size w w'
theorem l6Copy_s (W : Int) (A : Option Addr) (n c : Nat) (rows : List Int) (w : World) (hr : Rd w A (vI rows)) (hl : rows.length = n) (hn : n ≤ 1048576) : Calls Tryz.prog 206 #[.agg #[.int .i64 W, .slice A n c]] w (RetRg w W n rows) := by
 have HL := Lib.hid hl
 have HR := Lib.hid (hr.alloc (.cells #[.int .i64 W, .slice A n c] 26))
 have HB0 := Lib.hid (Blk.new w 26 #[.int .i64 W, .slice A n c])
 obtain ⟨w1, hw1⟩ : ∃ w1, w.alloc (.cells #[.int .i64 W, .slice A n c] 26) = w1 := ⟨_, rfl⟩
 have hb1 : Below w.heap.size w w1 := by rw [← hw1]; exact bel_alloc (Below.refl _ _) _
 have hsz : w1.heap.size = w.heap.size + 1 := by rw [← hw1]; simp
 rw [hw1] at HR HB0
 have HW1 := Lib.hid hw1
 have hBZ := Blk.new w1 26 #[.int .i64 0, .slice none 0 0]
 have hb2 := bel_alloc hb1 (.cells #[.int .i64 0, .slice none 0 0] 26)
 have hR2 := HR.out.alloc (.cells #[.int .i64 0, .slice none 0 0] 26)
 have hBR := HB0.out.alloc (.cells #[.int .i64 0, .slice none 0 0] 26)
 rw [hsz] at hBZ
 obtain ⟨w2, hw2⟩ : ∃ w2, w1.alloc (.cells #[.int .i64 0, .slice none 0 0] 26) = w2 := ⟨_, rfl⟩
 have hsz2 : w2.heap.size = w.heap.size + 2 := by rw [← hw2]; simp [hsz]
 rw [hw2] at hBZ hb2 hR2 hBR
 have HW2 := Lib.hid hw2
 have HSZ := Lib.hid hsz
 have HSZ2 := Lib.hid hsz2
 have HBZ := Lib.hid hBZ
 have HB2 := Lib.hid hb2
 have HR2 := Lib.hid hR2
 have HBR := Lib.hid hBR
 have c0 : w2.cell? ⟨w.heap.size, 0, none⟩ = some (.int .i64 W) := by simpa using hBR.cell 0
 have c1 : w2.cell? ⟨w.heap.size, 1, none⟩ = some (.slice A n c) := by simpa using hBR.cell 1
 have l0 := hBR.lt
 clear hl hr hw1 hb1 hsz hBZ hb2 hR2 hw2 hsz2 hBR HR HB0
 go_enter Tryz.func206, Tryz.ntmps206
 go_wp2_with fail
 rw [HW1.out]
 rw [HW2.out]
 clear HW1 HW2
 go_region_law ((refine step_appI rfl (.tmp 5) (.tmp 7) rfl (w.heap.size + 2) (some ⟨w2.heap.size, 0, none⟩) 0 0 [] (by simp [Act.eval]) (by have h := own_new w2 3 1 0 #[] rfl (by simp [maxLen]) (base := w.heap.size + 2) (by rw [HSZ2.out]; exact Nat.le_refl _); exact h) A n c rows (by simp [Act.eval]) ((HR2.out.below (bel_alloc (bel_drew (Below.refl _ _)) _))) HL.out (by omega) (by simp [HSZ2.out]) ?_); intro D8 c8 w8 ho8 hg8 hat8; rw [List.nil_append, Nat.zero_add] at ho8; have HO8 := Lib.hid ho8; have HG8 := Lib.hid hg8; clear ho8 hg8 hat8; have HZ8 := Lib.hid ((HBZ.out.below (bel_alloc (bel_drew (Below.refl _ _)) _)).grown HG8.out (fun e => by simp only [ob, Option.map_some, Option.some.injEq] at e; have := HSZ2.out; omega)); have z0 : w8.cell? ⟨w.heap.size + 1, 0, none⟩ = some (.int .i64 0) := (by simpa using HZ8.out.cell 0); have z1 : w8.cell? ⟨w.heap.size + 1, 1, none⟩ = some (.slice none 0 0) := (by simpa using HZ8.out.cell 1); have g0 := HZ8.out.frozen 0; have g1 := HZ8.out.frozen 1; have l8 := HZ8.out.lt; have HX8 := Lib.hid ((HBR.out.below (bel_alloc (bel_drew (Below.refl _ _)) _)).grown HG8.out (fun e => by simp only [ob, Option.map_some, Option.some.injEq] at e; have := HSZ2.out; omega)); have x0 : w8.cell? ⟨w.heap.size, 0, none⟩ = some (.int .i64 W) := (by simpa using HX8.out.cell 0))
 all_goals
  have hD := (HZ8.out.set_ 0 (.int .i64 W)).set_ 1 (.slice D8 n c8)
  have e0 : ((w8.setCell ⟨w.heap.size + 1, 0, none⟩ (.int .i64 W)).setCell ⟨w.heap.size + 1, 1, none⟩ (.slice D8 n c8)).cell? ⟨w.heap.size + 1, 0, none⟩ = some (.int .i64 W) := by simpa using hD.cell 0
  have e1 : ((w8.setCell ⟨w.heap.size + 1, 0, none⟩ (.int .i64 W)).setCell ⟨w.heap.size + 1, 1, none⟩ (.slice D8 n c8)).cell? ⟨w.heap.size + 1, 1, none⟩ = some (.slice D8 n c8) := by simpa using hD.cell 1
  have ne : ∀ g, ob D8 = some g → g ≠ w.heap.size + 1 := fun g e => by have := (own_lt HO8.out g e).1; omega
  have hbw : Below w.heap.size w w8 := bel_grown (bel_alloc (bel_drew HB2.out) (.cells #[] 3)) HG8.out (fun g e => by simp only [ob, Option.map_some, Option.some.injEq] at e; have := HSZ2.out; omega)
  have HNE := Lib.hid ne
  have HBW := Lib.hid hbw
  have E0 := Lib.hid e0
  have E1 := Lib.hid e1
  clear hD e0 e1 ne hbw z0 z1 g0 g1
  go_wp2_with fail
  have e0 := E0.out
  have e1 := E1.out
  exact bodyPost_ret (v := .agg #[.int .i64 W, .slice D8 n c8]) (by simp [results, Tryz.results206, go_sem, e0, e1]) rfl
   ⟨_, _, rfl, own_set (own_set (own_base HO8.out (by omega)) HNE.out _) HNE.out _, bel_set (bel_set HBW.out (by show w.heap.size ≤ w.heap.size + 1; omega)) (by show w.heap.size ≤ w.heap.size + 1; omega)⟩
theorem own_frz {w : World} {base g n c e size : Nat} {l : List Value} (ho : w.ownsRow base e size (.slice (some ⟨g, 0, none⟩) n c) n l) (k : Nat) : w.frozen? ⟨g, k, none⟩ = false := by
 rcases ho.2 with ⟨hv, _⟩ | ⟨g', cap, cur, hv, hb, hg, _⟩
 ·cases hv
 ·injection hv with h1 h2 h3
  injection h1 with h1
  injection h1 with h1
  subst h1
  exact Blk.frozen hg k
theorem own_putI {w : World} {base g n c : Nat} {l : List Int} (ho : w.ownsRow base 3 1 (.slice (some ⟨g, 0, none⟩) n c) n (vI l)) {k : Nat} (hk : k < n) (v : Int) :
  (w.setCell ⟨g, k, none⟩ (.int .i64 v)).ownsRow base 3 1 (.slice (some ⟨g, 0, none⟩) n c) n (vI (l.set k v)) := by
 have hl := own_len ho
 rw [vI_length, Nat.mul_one] at hl
 refine ⟨by rw [vI_length, List.length_set, hl, Nat.mul_one], ?_⟩
 rcases ho.2 with ⟨hv, _⟩ | ⟨g', cap, cur, hv, hb, hg, hnc, hm, hs, ht⟩
 ·cases hv
 ·injection hv with h1 h2 h3
  injection h1 with h1
  injection h1 with h1
  subst h1
  refine .inr ⟨g, cap, cur.setIfInBounds k (.int .i64 v), by rw [h3], hb, Blk.set_ (cs := cur) hg k _, hnc, hm, by simpa using hs, ?_⟩
  rw [Nat.mul_one] at ht ⊢
  rw [show (cur.setIfInBounds k (.int .i64 v)).toList = cur.toList.set k (.int .i64 v) by simp, List.take_set, ht]
  simp [vI, List.map_set]
theorem shlx (m : Nat) (hm : m ≤ 6) : ∃ v : Int, (2 : Int) ^ m = v ∧ IntKind.i64.wrap v = v := by
 obtain ⟨v, h1, h2, h3⟩ := shl1 m hm
 exact ⟨v, h1, Go.IntWalk.i64_in _ (by omega)⟩
theorem RemoveCell_s (m : Nat) (A : Option Addr) (n c x y : Nat) (rows : List Int) (w : World) (hr : Rd w A (vI rows)) (hl : rows.length = n) (hn : n ≤ 6) (hx : x < m) (hy : y < n) (hm : m ≤ 6) (hok : OkR m rows) :
  Calls Tryz.prog 190 #[.agg #[.int .i64 (m : Int), .slice A n c], .int .i64 (x : Int), .int .i64 (y : Int)] w (RetRgB w m n) := by
 have HL := Lib.hid hl
 have HOK := Lib.hid hok
 clear hok
 have HR := Lib.hid (hr.alloc (.cells #[.int .i64 (m : Int), .slice A n c] 26))
 have HB0 := Lib.hid (Blk.new w 26 #[.int .i64 (m : Int), .slice A n c])
 obtain ⟨w1, hw1⟩ : ∃ w1, w.alloc (.cells #[.int .i64 (m : Int), .slice A n c] 26) = w1 := ⟨_, rfl⟩
 have hb1 : Below w.heap.size w w1 := by rw [← hw1]; exact bel_alloc (Below.refl _ _) _
 have hsz : w1.heap.size = w.heap.size + 1 := by rw [← hw1]; simp
 rw [hw1] at HR HB0
 have HW1 := Lib.hid hw1
 have hBZ := Blk.new w1 26 #[.int .i64 0, .slice none 0 0]
 have hb2 := bel_alloc hb1 (.cells #[.int .i64 0, .slice none 0 0] 26)
 have hR2 := HR.out.alloc (.cells #[.int .i64 0, .slice none 0 0] 26)
 have hBR := HB0.out.alloc (.cells #[.int .i64 0, .slice none 0 0] 26)
 rw [hsz] at hBZ
 obtain ⟨w2, hw2⟩ : ∃ w2, w1.alloc (.cells #[.int .i64 0, .slice none 0 0] 26) = w2 := ⟨_, rfl⟩
 have hsz2 : w2.heap.size = w.heap.size + 2 := by rw [← hw2]; simp [hsz]
 rw [hw2] at hBZ hb2 hR2 hBR
 have HW2 := Lib.hid hw2
 have HSZ := Lib.hid hsz
 have HSZ2 := Lib.hid hsz2
 have HBZ := Lib.hid hBZ
 have HB2 := Lib.hid hb2
 have HR2 := Lib.hid hR2
 have HBR := Lib.hid hBR
 have c0 : w2.cell? ⟨w.heap.size, 0, none⟩ = some (.int .i64 (m : Int)) := by simpa using hBR.cell 0
 have c1 : w2.cell? ⟨w.heap.size, 1, none⟩ = some (.slice A n c) := by simpa using hBR.cell 1
 have l0 := hBR.lt
 clear hl hr hw1 hb1 hsz hBZ hb2 hR2 hw2 hsz2 hBR HR HB0
 go_enter Tryz.func190, Tryz.ntmps190
 go_wp2_with fail
 rw [HW1.out]
 rw [HW2.out]
 clear HW1 HW2
 go_wp2_with fail
 refine (l6Copy_s (m : Int) A n c rows _ HR2.out HL.out (by omega)).mono ?_
 rintro e w3 ⟨D, cD, rfl, hO, hb3⟩
 have HB3 := Lib.hid (bel_trans HB2.out hb3)
 have HO3 := Lib.hid (own_base hO (show w.heap.size + 2 ≤ w2.heap.size by rw [HSZ2.out]; exact Nat.le_refl _))
 have HBZ3 := Lib.hid (HBZ.out.below hb3)
 have HR3 := Lib.hid (HR2.out.below hb3)
 have HBR3 := Lib.hid (HBR.out.below hb3)
 have HBN3 := Lib.hid (Blk.new w3 26 #[.int .i64 (m : Int), .slice D n cD])
 have c0 : w3.cell? ⟨w.heap.size, 0, none⟩ = some (.int .i64 (m : Int)) := by simpa using HBR3.out.cell 0
 have c1 : w3.cell? ⟨w.heap.size, 1, none⟩ = some (.slice A n c) := by simpa using HBR3.out.cell 1
 have l0 := HBR3.out.lt
 clear hO hb3
 go_wp2_with fail
 refine (InRegion_s (m : Int) A n c rows (x : Int) (y : Int) _ (HR3.out.alloc _) HL.out (by omega) (by omega)).mono ?_
 obtain ⟨b, hb⟩ : ∃ b, (isReg (m : Int) rows && hasR (m : Int) rows ((x : Int), (y : Int))) = b := ⟨_, rfl⟩
 rw [hb]
 have HBB := Lib.hid hb
 clear hb c0 c1 l0
 rintro e w4 ⟨rfl, hb4⟩
 have HB4 := Lib.hid (bel_trans (bel_alloc HB3.out (.cells #[.int .i64 (m : Int), .slice D n cD] 26)) hb4)
 have HZ4 := Lib.hid ((HBZ3.out.alloc (.cells #[.int .i64 (m : Int), .slice D n cD] 26)).below hb4)
 have HN4 := Lib.hid (HBN3.out.below hb4)
 have HO4 := Lib.hid (own_keep (HO3.out.alloc (.cells #[.int .i64 (m : Int), .slice D n cD] 26)) hb4)
 have hl3 := HBZ3.out.lt
 have c0 : w4.cell? ⟨w3.heap.size, 0, none⟩ = some (.int .i64 (m : Int)) := by simpa using HN4.out.cell 0
 have c1 : w4.cell? ⟨w3.heap.size, 1, none⟩ = some (.slice D n cD) := by simpa using HN4.out.cell 1
 have l0 := HN4.out.lt
 have z0 : w4.cell? ⟨w.heap.size + 1, 0, none⟩ = some (.int .i64 0) := by simpa using HZ4.out.cell 0
 have z1 : w4.cell? ⟨w.heap.size + 1, 1, none⟩ = some (.slice none 0 0) := by simpa using HZ4.out.cell 1
 have g0 := HZ4.out.frozen 0
 have g1 := HZ4.out.frozen 1
 have zl := HZ4.out.lt
 have hD3 : ∀ g, ob D = some g → g < w3.heap.size := fun g e => (own_lt HO3.out g e).2
 clear hb4 HBZ3 HBN3 HO3 HBR3
 have key : ∀ (u : World) (rw2 : List Int), u.ownsRow (w.heap.size + 2) 3 1 (.slice D n cD) n (vI rw2) → OkR m rw2 → Below w.heap.size w u → Blk u (w.heap.size + 1) 26 #[.int .i64 0, .slice none 0 0] → ∀ bb,
   ((u.setCell ⟨w.heap.size + 1, 0, none⟩ (.int .i64 (m : Int))).setCell ⟨w.heap.size + 1, 1, none⟩ (.slice D n cD)).cell? ⟨w.heap.size + 1, 0, none⟩ = some (.int .i64 (m : Int)) ∧ ((u.setCell ⟨w.heap.size + 1, 0, none⟩ (.int .i64 (m : Int))).setCell ⟨w.heap.size + 1, 1, none⟩ (.slice D n cD)).cell? ⟨w.heap.size + 1, 1, none⟩ = some (.slice D n cD) ∧
   RetRgB w m n (.returned (.tuple #[.agg #[.int .i64 (m : Int), .slice D n cD], .bool bb])) ((u.setCell ⟨w.heap.size + 1, 0, none⟩ (.int .i64 (m : Int))).setCell ⟨w.heap.size + 1, 1, none⟩ (.slice D n cD)) := fun u rw2 ho hokk hbu hz bb => by
  have hD := (hz.set_ 0 (.int .i64 (m : Int))).set_ 1 (.slice D n cD)
  have ne : ∀ g, ob D = some g → g ≠ w.heap.size + 1 := fun g e => by have := (own_lt ho g e).1; omega
  exact ⟨by simpa using hD.cell 0, by simpa using hD.cell 1, _, _, _, _, rfl, own_set (own_set (own_base ho (by omega)) ne _) ne _, bel_set (bel_set hbu (by show w.heap.size ≤ w.heap.size + 1; omega)) (by show w.heap.size ≤ w.heap.size + 1; omega), hokk⟩
 have HKEY := Lib.hid key
 clear key
 cases b with
 | false =>
  go_wp2_with fail
  obtain ⟨e0, e1, e2⟩ := HKEY.out w4 _ HO4.out HOK.out HB4.out HZ4.out false
  exact bodyPost_ret (v := .tuple #[.agg #[.int .i64 (m : Int), .slice D n cD], .bool false]) (by simp [results, Tryz.results190, go_sem, e0, e1]) rfl e2
 | true =>
  obtain ⟨gd, hD, hgb, hgl⟩ := own_someD HO4.out (show 1 ≤ n by omega)
  have hgd3 := hD3 gd (by rw [hD]; rfl)
  subst hD
  have hRD := Rd.of_own HO4.out
  obtain ⟨ga, oa, hA2, hga, d0⟩ := RdI.at_ hRD (show y < rows.length by rw [HL.out]; exact hy)
  injection hA2 with hA2
  injection hA2 with e1 e2
  subst e1 e2
  obtain ⟨z, hz⟩ : ∃ z, rows[y]'(by rw [HL.out]; exact hy) = z := ⟨_, rfl⟩
  rw [hz, Nat.zero_add] at d0
  have hcap := own_capD HO4.out
  have hfz : w4.frozen? ⟨gd, y, none⟩ = false := by
   rcases HO4.out.2 with ⟨hv, _⟩ | ⟨g, cap, cur, hv, hb, hg, _⟩
   ·cases hv
   ·injection hv with h1 h2 h3
    injection h1 with h1
    injection h1 with h1
    subst h1
    exact Blk.frozen hg y
  have hy0 : (0 : Int) ≤ (y : Int) := by omega
  have hy1 : (y : Int) < (n : Int) := by omega
  have hx0 : (0 : Int) ≤ (x : Int) := by omega
  have hx64 : (x : Int) ≤ 64 := by omega
  have ex : IntKind.i64.wrap (x : Int) = (x : Int) := Go.IntWalk.i64_in _ (by omega)
  obtain ⟨v, hv, ev⟩ := shlx x (by omega)
  have HVV := Lib.hid hv
  have HPUT := Lib.hid (okR_put HOK.out hm hx (show y < rows.length by rw [HL.out]; exact hy) (by have h := HBB.out; rw [Bool.and_eq_true] at h; exact h.2))
  rw [hz, hv] at HPUT
  have hvI : (1 : Int) * 2 ^ x = v := by rw [Int.one_mul]; exact hv
  clear hz hRD hv
  go_wp2_with fail
  go_region
  all_goals
   obtain ⟨u, hu⟩ : ∃ u, wrap64 (z - v) = u := ⟨_, rfl⟩
   rw [hu] at HPUT ⊢
   have hP := own_putI HO4.out hy u
   have hbP : Below w.heap.size w ((w4.setCell ⟨gd, y, none⟩ (.int .i64 u)).drew) := bel_drew (bel_set HB4.out (by show w.heap.size ≤ gd; omega))
   have hzP := HZ4.out.far (p := ⟨gd, y, none⟩) (by show w.heap.size + 1 ≠ gd; omega) (.int .i64 u)
   have hnP := HN4.out.far (p := ⟨gd, y, none⟩) (by show w3.heap.size ≠ gd; omega) (.int .i64 u)
   have hP2 := own_keep hP (bel_drew (Below.refl _ _))
   have hzP2 := hzP.drew
   have hnP2 := hnP.drew
   obtain ⟨W5, hW5⟩ : ∃ W5, (w4.setCell ⟨gd, y, none⟩ (.int .i64 u)).drew = W5 := ⟨_, rfl⟩
   rw [hW5] at hP2 hbP hzP2 hnP2 ⊢
   clear hP hzP hnP hW5 hu c0 c1 l0 z0 z1 g0 g1 zl d0 hfz
   have c0 : W5.cell? ⟨w3.heap.size, 0, none⟩ = some (.int .i64 (m : Int)) := by simpa using hnP2.cell 0
   have c1 : W5.cell? ⟨w3.heap.size, 1, none⟩ = some (.slice (some ⟨gd, 0, none⟩) n cD) := by simpa using hnP2.cell 1
   have l0 := hnP2.lt
   have z0 : W5.cell? ⟨w.heap.size + 1, 0, none⟩ = some (.int .i64 0) := by simpa using hzP2.cell 0
   have z1 : W5.cell? ⟨w.heap.size + 1, 1, none⟩ = some (.slice none 0 0) := by simpa using hzP2.cell 1
   have g0 := hzP2.frozen 0
   have g1 := hzP2.frozen 1
   have zl := hzP2.lt
   obtain ⟨e0, e1, e2⟩ := HKEY.out _ _ hP2 HPUT.out hbP hzP2 true
   have E0 := Lib.hid e0
   have E1 := Lib.hid e1
   have E2 := Lib.hid e2
   clear hP2 hbP hzP2 hnP2 e0 e1 e2
   go_wp2_with fail
   have e0 := E0.out
   have e1 := E1.out
   exact bodyPost_ret (v := .tuple #[.agg #[.int .i64 (m : Int), .slice (some ⟨gd, 0, none⟩) n cD], .bool true]) (by simp [results, Tryz.results190, go_sem, e0, e1]) rfl E2.out
end

section
attribute [local go_sem ↓] Go.wp_at_zero Go.wp_at_succ
def RetRgD (w : World) (g : Nat) (A : Option Addr) (n c : Nat) (bs : List UInt8) (e : Ending) (w' : World) : Prop :=
 ∃ (m k : Nat) (D : Option Addr) (cD : Nat) (rows : List Int), e = .returned (.agg #[.int .i64 (m : Int), .slice D k cD]) ∧ w'.ownsRow (w.heap.size + 1) 3 1 (.slice D k cD) k (vI rows) ∧ 1 ≤ m ∧ m ≤ 6 ∧ 1 ≤ k ∧ k ≤ 6 ∧ Cur w' g A n c bs ∧ w.grownBy w' (some g)
def RetRgV (w : World) (g : Nat) (A : Option Addr) (n c : Nat) (bs : List UInt8) (most : Nat) (e : Ending) (w' : World) : Prop :=
 ∃ (m k : Nat) (D : Option Addr) (cD : Nat) (rows : List Int), e = .returned (.agg #[.int .i64 (m : Int), .slice D k cD]) ∧ w'.ownsRow (w.heap.size + 1) 3 1 (.slice D k cD) k (vI rows) ∧ 1 ≤ m ∧ m ≤ 6 ∧ 1 ≤ k ∧ k ≤ 6 ∧ Cur w' g A n c bs ∧ w.grownBy w' (some g) ∧ OkR m rows ∧ m ≤ most ∧ k ≤ most
theorem l6Draw_v (A : Option Addr) (n c g most : Nat) (bs : List UInt8) (w : World) (hc : Cur w g A n c bs) (hn : n ≤ 1048576) (hm1 : 1 ≤ most) (hm6 : most ≤ 6) :
  Calls Tryz.prog 160 #[.pointer (some ⟨g, 0, none⟩), .int .i64 (most : Int)] w (RetRgV w g A n c bs most) := by
 have hgl : g < w.heap.size := by obtain ⟨i, x, hi, hB⟩ := hc.blk; exact hB.lt
 have hAb : 0 < n → ∀ b, ob A = some b → b < w.heap.size := fun h0 b e => by
  obtain ⟨gb, off, hA, hgb, _⟩ := RdB.at_ hc.rd (show 0 < bs.length by rw [hc.len]; exact h0)
  subst hA
  simp only [ob, Option.map_some, Option.some.injEq] at e
  omega
 have HAB : Hid (0 < n → ∀ b, ob A = some b → w.heap.size ≤ b → False) := fun h0 b e h => by have := hAb h0 b e; omega
 clear hAb
 have hBZ := Blk.new w 26 #[.int .i64 0, .slice none 0 0]
 have hF0 := (FrG.refl w.heap.size g w).below (bel_alloc (Below.refl _ _) (.cells #[.int .i64 0, .slice none 0 0] 26)) (Nat.le_refl _)
 have hC0 := hc.below (bel_alloc (Below.refl _ _) (.cells #[.int .i64 0, .slice none 0 0] 26))
 obtain ⟨w1, hw1⟩ : ∃ w1, w.alloc (.cells #[.int .i64 0, .slice none 0 0] 26) = w1 := ⟨_, rfl⟩
 have hsz1 : w1.heap.size = w.heap.size + 1 := by rw [← hw1]; simp
 rw [hw1] at hBZ hF0 hC0
 have HW1 := Lib.hid hw1
 have HSZ1 := Lib.hid hsz1
 have HBZ := Lib.hid hBZ
 have HF0 := Lib.hid hF0
 have HC0 := Lib.hid hC0
 clear hBZ hF0 hC0 hw1 hsz1 hc
 go_enter Tryz.func160, Tryz.ntmps160
 go_wp2_with fail
 rw [HW1.out]
 clear HW1
 go_wp2_with fail
 refine (l1Below_s A n c g most bs w1 HC0.out hn hm1 (by omega)).mono ?_
 rintro e w2 ⟨q, rfl, hq, hc2, hg2⟩
 have HC2 := Lib.hid hc2
 have HF2 := Lib.hid (HF0.out.draw hg2 (by have := HSZ1.out; omega))
 have HBZ2 := Lib.hid (HBZ.out.grown hg2 (fun e => by injection e with e; omega))
 have hs2 : w.heap.size + 1 ≤ w2.heap.size := by have h1 := hg2.size; have h2 := HSZ1.out; omega
 obtain ⟨m, hm⟩ : ∃ m, 1 + q = m := ⟨_, rfl⟩
 have hmI : (1 : Int) + (q : Int) = (m : Int) := by omega
 have em : IntKind.i64.wrap (m : Int) = (m : Int) := Go.IntWalk.i64_in _ (by omega)
 have hmm : 1 ≤ m ∧ m ≤ 6 := by omega
 have hmM : m ≤ most := by omega
 clear hc2 hg2 hm hq HC0 HF0 HBZ
 go_wp2_with fail
 refine (l1Below_s A n c g most bs w2 HC2.out hn hm1 (by omega)).mono ?_
 rintro e w3 ⟨q2, rfl, hq2, hc3, hg3⟩
 have HC3 := Lib.hid hc3
 have HF3 := Lib.hid (HF2.out.draw hg3 (by omega))
 have HBZ3 := Lib.hid (HBZ2.out.grown hg3 (fun e => by injection e with e; omega))
 have hs3 : w.heap.size + 1 ≤ w3.heap.size := by have h1 := hg3.size; omega
 obtain ⟨k, hk⟩ : ∃ k, 1 + q2 = k := ⟨_, rfl⟩
 have hkI : (1 : Int) + (q2 : Int) = (k : Int) := by omega
 have ek : IntKind.i64.wrap (k : Int) = (k : Int) := Go.IntWalk.i64_in _ (by omega)
 have hkk : 1 ≤ k ∧ k ≤ 6 := by omega
 have hkM : k ≤ most := by omega
 clear hc3 hg3 hk hq2 HC2 HF2 HBZ2
 go_wp2_with fail
 refine (RectangleOf_s m k w3 hmm.1 hmm.2 hkk.1 hkk.2).mono ?_
 rintro e w4 ⟨D, cD, rows, b, rfl, hO, hb4, hok⟩
 have HOK := Lib.hid hok
 clear hok
 have HO4 := Lib.hid (own_base hO hs3)
 have HC4 := Lib.hid (HC3.out.below hb4)
 have HF4 := Lib.hid (HF3.out.below hb4 (by omega))
 have HBZ4 := Lib.hid (HBZ3.out.below hb4)
 have hs4 : w.heap.size + 1 ≤ w4.heap.size := by have h1 := hb4.size; omega
 have HBN := Lib.hid (Blk.new w4 26 #[.int .i64 (m : Int), .slice D k cD])
 have hD4 : ∀ b, ob D = some b → b ≠ w4.heap.size := fun b e => by have := (own_lt HO4.out b e).2; omega
 have HD4 := Lib.hid hD4
 obtain ⟨gr, hgr⟩ : ∃ gr, w4.heap.size = gr := ⟨_, rfl⟩
 have HO5 := Lib.hid (HO4.out.alloc (.cells #[.int .i64 (m : Int), .slice D k cD] 26))
 have HC5 := Lib.hid (HC4.out.below (bel_alloc (Below.refl _ _) (.cells #[.int .i64 (m : Int), .slice D k cD] 26)))
 have HF5 := Lib.hid (HF4.out.below (bel_alloc (Below.refl _ _) (.cells #[.int .i64 (m : Int), .slice D k cD] 26)) (by omega))
 have HBZ5 := Lib.hid (HBZ4.out.alloc (.cells #[.int .i64 (m : Int), .slice D k cD] 26))
 clear hO hb4 hD4 HO4 HC3 HC4 HF3 HF4 HBZ3 HBZ4
 go_wp2_with fail
 obtain ⟨w5, hw5⟩ : ∃ w5, w4.alloc (.cells #[.int .i64 (m : Int), .slice D k cD] 26) = w5 := ⟨_, rfl⟩
 have hs5 : w.heap.size + 1 < w5.heap.size := by rw [← hw5]; simp; omega
 rw [hw5] at HO5 HC5 HF5 HBZ5 HBN ⊢
 rw [hgr] at HD4 HBN hs4
 clear hw5 hgr
 refine (l1Below_s A n c g 3 bs w5 HC5.out hn (by omega) (by omega)).mono ?_
 rintro e w6 ⟨r, rfl, hr3, hc6, hg6⟩
 have HC6 := Lib.hid hc6
 have HF6 := Lib.hid (HF5.out.draw hg6 (by omega))
 have HBZ6 := Lib.hid (HBZ5.out.grown hg6 (fun e => by injection e with e; omega))
 have HBN6 := Lib.hid (HBN.out.grown hg6 (fun e => by injection e with e; omega))
 have HO6 := Lib.hid (own_keptD HO5.out hg6 (fun b e r => by injection r with r; have := (own_lt HO5.out b e).1; omega))
 clear hc6 hg6 HC5 HF5 HBZ5 HBN HO5
 go_wp2_with fail
 go_loopw [8] (fun e8 wr => ∃ (nn cD : Nat) (D : Option Addr) (rows : List Int), nn ≤ 2 ∧ e8 = .int .i64 nn ∧ Blk wr gr 26 #[.int .i64 (m : Int), .slice D k cD] ∧ wr.ownsRow (w.heap.size + 1) 3 1 (.slice D k cD) k (vI rows) ∧ (∀ b, ob D = some b → b ≠ gr) ∧ Blk wr w.heap.size 26 #[.int .i64 0, .slice none 0 0] ∧ Cur wr g A n c bs ∧ FrG w.heap.size g w wr ∧ OkR m rows) (fun e8 _ => (intOf e8).toNat)
 case atStart => exact ⟨r, cD, D, rows, by omega, rfl, HBN6.out, HO6.out, HD4.out, HBZ6.out, HC6.out, HF6.out, HOK.out⟩
 case round =>
  clear HBN6 HO6 HD4 HBZ6 HC6 HF6 HOK
  obtain ⟨nn, cD, D, rows, hnn, rfl, hB, hO, hD, hZ, hC, hF, hok⟩ := hrel
  have HOK := Lib.hid hok
  clear hok
  have HB := Lib.hid hB
  have HO := Lib.hid hO
  have HD := Lib.hid hD
  have HZ := Lib.hid hZ
  have HC := Lib.hid hC
  have HF := Lib.hid hF
  have c0 : wr.cell? ⟨gr, 0, none⟩ = some (.int .i64 (m : Int)) := by simpa using hB.cell 0
  have c1 : wr.cell? ⟨gr, 1, none⟩ = some (.slice D k cD) := by simpa using hB.cell 1
  have cl := hB.lt
  have hsw : w.heap.size + 1 ≤ wr.heap.size := by have := hZ.lt; omega
  clear hB hO hD hZ hC hF
  by_cases hn0 : 0 < nn
  ·have hnI : (nn : Int) > 0 := by omega
   have hn1 : IntKind.i64.wrap ((nn : Int) - 1) = (nn : Int) - 1 := Go.IntWalk.i64_in _ (by omega)
   go_wp2_with fail
   refine (l1Below_s A n c g m bs wr HC.out hn hmm.1 (by omega)).mono ?_
   rintro e w7 ⟨x, rfl, hx, hc7, hg7⟩
   have HC7 := Lib.hid hc7
   have HF7 := Lib.hid (HF.out.draw hg7 (by omega))
   have HZ7 := Lib.hid (HZ.out.grown hg7 (fun e => by injection e with e; omega))
   have HB7 := Lib.hid (HB.out.grown hg7 (fun e => by injection e with e; omega))
   have HO7 := Lib.hid (own_keptD HO.out hg7 (fun b e r => by injection r with r; have := (own_lt HO.out b e).1; omega))
   have hs7 : w.heap.size + 1 ≤ w7.heap.size := by have := hg7.size; omega
   clear hc7 hg7 c0 c1 cl HC HF HZ HB HO
   have c0 : w7.cell? ⟨gr, 0, none⟩ = some (.int .i64 (m : Int)) := by simpa using HB7.out.cell 0
   have c1 : w7.cell? ⟨gr, 1, none⟩ = some (.slice D k cD) := by simpa using HB7.out.cell 1
   have cl := HB7.out.lt
   have hgg : g ≠ gr := by omega
   go_wp2_with fail
   go_region_with (first | (go_at_call 87; refine (l1Below_s A n c g k bs _ (HC7.out.below (bel_drew (Below.refl _ _))) hn hkk.1 (by omega)).mono ?_; rintro e w8 ⟨y, rfl, hy, hc8, hg8⟩; have HC8 := Lib.hid hc8; have HG8 := Lib.hid hg8; clear hc8 hg8; have HB8 := Lib.hid (HB7.out.drew.grown HG8.out (fun e => by injection e with e; omega)); have x0 : w8.cell? ⟨gr, 0, none⟩ = some (.int .i64 (m : Int)) := (by simpa using HB8.out.cell 0); have x1 : w8.cell? ⟨gr, 1, none⟩ = some (.slice D k cD) := (by simpa using HB8.out.cell 1); have xl := HB8.out.lt) | (go_at_call 190; refine (RemoveCell_s m D k cD x y rows _ ((Rd.of_own HO7.out).below (bel_drew (Below.refl _ _)) |>.grown HG8.out (fun b e r => by injection r with r; have := (own_lt HO7.out b e).1; omega)) (by have := own_len HO7.out; rw [vI_length] at this; omega) hkk.2 hx hy hmm.2 HOK.out).mono ?_; rintro e w9 ⟨D9, c9, rows9, b9, rfl, hO9, hb9, hok9⟩; have HOK9 := Lib.hid hok9; clear hok9; have HO9 := Lib.hid hO9; have HBB9 := Lib.hid hb9; clear hO9 hb9; have HB9 := Lib.hid (HB8.out.below HBB9.out); have y0 : w9.cell? ⟨gr, 0, none⟩ = some (.int .i64 (m : Int)) := (by simpa using HB9.out.cell 0); have y1 : w9.cell? ⟨gr, 1, none⟩ = some (.slice D k cD) := (by simpa using HB9.out.cell 1); have yl := HB9.out.lt; have yf0 := HB9.out.frozen 0; have yf1 := HB9.out.frozen 1))
   all_goals
    have hb9 := HBB9.out
    have hgm : (w9.setCell ⟨gr, 0, none⟩ (.int .i64 (m : Int))).setCell ⟨gr, 1, none⟩ (.slice D9 k c9) = (w9.setCell ⟨gr, 0, none⟩ (.int .i64 (m : Int))).setCell ⟨gr, 1, none⟩ (.slice D9 k c9) := rfl
    have gg : w9.grownBy ((w9.setCell ⟨gr, 0, none⟩ (.int .i64 (m : Int))).setCell ⟨gr, 1, none⟩ (.slice D9 k c9)) (some gr) := grown_set (p := ⟨gr, 1, none⟩) (grown_set (p := ⟨gr, 0, none⟩) (World.grownBy.refl _ _) rfl _) rfl _
    have hs8 : w.heap.size + 1 ≤ w8.heap.size := by have := HG8.out.size; simp at this; omega
    have hs9 : w.heap.size + 1 ≤ w9.heap.size := by have := hb9.size; omega
    have kB : Blk ((w9.setCell ⟨gr, 0, none⟩ (.int .i64 (m : Int))).setCell ⟨gr, 1, none⟩ (.slice D9 k c9)) gr 26 #[.int .i64 (m : Int), .slice D9 k c9] := (HB9.out.set_ 0 (.int .i64 (m : Int))).set_ 1 (.slice D9 k c9)
    have nD : ∀ b, ob D9 = some b → b ≠ gr := fun b e => by have h1 := (own_lt HO9.out b e).1; have := HB8.out.lt; omega
    have kO : ((w9.setCell ⟨gr, 0, none⟩ (.int .i64 (m : Int))).setCell ⟨gr, 1, none⟩ (.slice D9 k c9)).ownsRow (w.heap.size + 1) 3 1 (.slice D9 k c9) k (vI rows9) := own_set (own_set (own_base HO9.out hs8) nD _) nD _
    have kC9 : Cur w9 g A n c bs := HC8.out.below hb9
    have kC := kC9.row gg (fun b e => by injection e with e; omega) (fun h0 b e r => HAB.out h0 b r (by injection e with e; omega))
    have kF := (((HF7.out.below (bel_drew (Below.refl _ _)) (by omega)).draw HG8.out (by simp; omega)).below hb9 (by omega)).row gg (by omega) (fun b e => by injection e with e; omega)
    have kZ := (((HZ7.out.drew.grown HG8.out (fun e => by injection e with e; omega)).below hb9).grown gg (fun e => by injection e with e; omega))
    have KB := Lib.hid kB
    have ND := Lib.hid nD
    have KO := Lib.hid kO
    have KC := Lib.hid kC
    have KF := Lib.hid kF
    have KZ := Lib.hid kZ
    clear hgm gg kB nD kO kC9 kC kF kZ hb9
    go_wp2_with fail
    exact ⟨⟨nn - 1, c9, D9, rows9, by omega, by rw [show ((nn - 1 : Nat) : Int) = (nn : Int) - 1 by omega], KB.out, KO.out, ND.out, KZ.out, KC.out, KF.out, HOK9.out⟩, by simp [intOf]; omega⟩
  ·obtain rfl : nn = 0 := by omega
   have hnI : ¬ ((0 : Nat) : Int) > 0 := by omega
   have z0 : wr.cell? ⟨w.heap.size, 0, none⟩ = some (.int .i64 0) := by simpa using HZ.out.cell 0
   have z1 : wr.cell? ⟨w.heap.size, 1, none⟩ = some (.slice none 0 0) := by simpa using HZ.out.cell 1
   have g0 := HZ.out.frozen 0
   have g1 := HZ.out.frozen 1
   have zl := HZ.out.lt
   have hD := (HZ.out.set_ 0 (.int .i64 (m : Int))).set_ 1 (.slice D k cD)
   have e0 : ((wr.setCell ⟨w.heap.size, 0, none⟩ (.int .i64 (m : Int))).setCell ⟨w.heap.size, 1, none⟩ (.slice D k cD)).cell? ⟨w.heap.size, 0, none⟩ = some (.int .i64 (m : Int)) := by simpa using hD.cell 0
   have e1 : ((wr.setCell ⟨w.heap.size, 0, none⟩ (.int .i64 (m : Int))).setCell ⟨w.heap.size, 1, none⟩ (.slice D k cD)).cell? ⟨w.heap.size, 1, none⟩ = some (.slice D k cD) := by simpa using hD.cell 1
   have E0 := Lib.hid e0
   have E1 := Lib.hid e1
   clear hD e0 e1
   go_wp2_with fail
   have e0 := E0.out
   have e1 := E1.out
   have ne : ∀ b, ob D = some b → b ≠ w.heap.size := fun b e => by have := (own_lt HO.out b e).1; omega
   have hfr : FrG w.heap.size g w ((wr.setCell ⟨w.heap.size, 0, none⟩ (.int .i64 (m : Int))).setCell ⟨w.heap.size, 1, none⟩ (.slice D k cD)) := HF.out.row (row := some w.heap.size) (grown_set (p := ⟨w.heap.size, 1, none⟩) (grown_set (p := ⟨w.heap.size, 0, none⟩) (World.grownBy.refl _ _) rfl _) rfl _) (by omega) (fun b e => by injection e with e; omega)
   exact bodyPost_ret (v := .agg #[.int .i64 (m : Int), .slice D k cD]) (by simp [results, Tryz.results160, go_sem, e0, e1]) rfl
    ⟨m, k, D, cD, rows, rfl, own_set (own_set HO.out ne _) ne _, hmm.1, hmm.2, hkk.1, hkk.2, HC.out.row (row := some w.heap.size) (grown_set (p := ⟨w.heap.size, 1, none⟩) (grown_set (p := ⟨w.heap.size, 0, none⟩) (World.grownBy.refl _ _) rfl _) rfl _) (fun b e => by injection e with e; omega) (fun h0 b e r => HAB.out h0 b r (by injection e with e; omega)), hfr.grown, HOK.out, hmM, hkM⟩
theorem l6Draw_s (A : Option Addr) (n c g most : Nat) (bs : List UInt8) (w : World) (hc : Cur w g A n c bs) (hn : n ≤ 1048576) (hm1 : 1 ≤ most) (hm6 : most ≤ 6) :
  Calls Tryz.prog 160 #[.pointer (some ⟨g, 0, none⟩), .int .i64 (most : Int)] w (RetRgD w g A n c bs) :=
 (l6Draw_v A n c g most bs w hc hn hm1 hm6).mono fun e w' h => by
  obtain ⟨m, k, D, cD, rows, h1, h2, h3, h4, h5, h6, h7, h8, _⟩ := h
  exact ⟨m, k, D, cD, rows, h1, h2, h3, h4, h5, h6, h7, h8⟩
end

section
attribute [local go_sem ↓] Go.wp_at_zero Go.wp_at_succ
def RetRgA (w : World) (g : Nat) (A : Option Addr) (n c : Nat) (bs : List UInt8) (e : Ending) (w' : World) : Prop :=
 ∃ (W : Int) (k : Nat) (D : Option Addr) (cD : Nat) (rows : List Int), e = .returned (.agg #[.int .i64 W, .slice D k cD]) ∧ w'.ownsRow (w.heap.size + 1) 3 1 (.slice D k cD) k (vI rows) ∧ k ≤ 9 ∧ Cur w' g A n c bs ∧ w.grownBy w' (some g)
theorem l6Any_s (A : Option Addr) (n c g : Nat) (bs : List UInt8) (w : World) (hc : Cur w g A n c bs) (hn : n ≤ 1048576) :
  Calls Tryz.prog 174 #[.pointer (some ⟨g, 0, none⟩)] w (RetRgA w g A n c bs) := by
 have hgl : g < w.heap.size := by obtain ⟨i, x, hi, hB⟩ := hc.blk; exact hB.lt
 have hAb : 0 < n → ∀ b, ob A = some b → b < w.heap.size := fun h0 b e => by
  obtain ⟨gb, off, hA, hgb, _⟩ := RdB.at_ hc.rd (show 0 < bs.length by rw [hc.len]; exact h0)
  subst hA
  simp only [ob, Option.map_some, Option.some.injEq] at e
  omega
 have HAB : Hid (0 < n → ∀ b, ob A = some b → w.heap.size ≤ b → False) := fun h0 b e h => by have := hAb h0 b e; omega
 clear hAb
 have hBZ := Blk.new w 26 #[.int .i64 0, .slice none 0 0]
 have hF0 := (FrG.refl w.heap.size g w).below (bel_alloc (Below.refl _ _) (.cells #[.int .i64 0, .slice none 0 0] 26)) (Nat.le_refl _)
 have hC0 := hc.below (bel_alloc (Below.refl _ _) (.cells #[.int .i64 0, .slice none 0 0] 26))
 obtain ⟨w1, hw1⟩ : ∃ w1, w.alloc (.cells #[.int .i64 0, .slice none 0 0] 26) = w1 := ⟨_, rfl⟩
 have hsz1 : w1.heap.size = w.heap.size + 1 := by rw [← hw1]; simp
 rw [hw1] at hBZ hF0 hC0
 have HW1 := Lib.hid hw1
 have HSZ1 := Lib.hid hsz1
 have HBZ := Lib.hid hBZ
 have HF0 := Lib.hid hF0
 have HC0 := Lib.hid hC0
 clear hBZ hF0 hC0 hw1 hsz1 hc
 go_enter Tryz.func174, Tryz.ntmps174
 go_wp2_with fail
 rw [HW1.out]
 clear HW1
 go_wp2_with fail
 refine (l6Draw_s A n c g 5 bs w1 HC0.out hn (by omega) (by omega)).mono ?_
 rintro e w2 ⟨m, k, D, cD, rows, rfl, hO, hm1, hm6, hk1, hk6, hc2, hg2⟩
 have hs2 : w.heap.size + 1 ≤ w2.heap.size := by have h1 := hg2.size; have h2 := HSZ1.out; omega
 have HO2 := Lib.hid (own_base hO (show w.heap.size + 1 ≤ w1.heap.size + 1 by have := HSZ1.out; omega))
 have HC2 := Lib.hid hc2
 have HF2 := Lib.hid (HF0.out.draw hg2 (by have := HSZ1.out; omega))
 have HBZ2 := Lib.hid (HBZ.out.grown hg2 (fun e => by injection e with e; omega))
 have HBN := Lib.hid (Blk.new w2 26 #[.int .i64 (m : Int), .slice D k cD])
 have hD2 : ∀ b, ob D = some b → b < w2.heap.size := fun b e => (own_lt HO2.out b e).2
 have HO5 := Lib.hid (HO2.out.alloc (.cells #[.int .i64 (m : Int), .slice D k cD] 26))
 have HC5 := Lib.hid (HC2.out.below (bel_alloc (Below.refl _ _) (.cells #[.int .i64 (m : Int), .slice D k cD] 26)))
 have HF5 := Lib.hid (HF2.out.below (bel_alloc (Below.refl _ _) (.cells #[.int .i64 (m : Int), .slice D k cD] 26)) (by omega))
 have HBZ5 := Lib.hid (HBZ2.out.alloc (.cells #[.int .i64 (m : Int), .slice D k cD] 26))
 clear hO hc2 hg2 HC0 HF0 HBZ HO2 HC2 HF2 HBZ2
 go_wp2_with fail
 obtain ⟨gr, hgr⟩ : ∃ gr, w2.heap.size = gr := ⟨_, rfl⟩
 obtain ⟨w5, hw5⟩ : ∃ w5, w2.alloc (.cells #[.int .i64 (m : Int), .slice D k cD] 26) = w5 := ⟨_, rfl⟩
 have hs5 : w.heap.size + 1 < w5.heap.size := by rw [← hw5]; simp; omega
 rw [hw5] at HO5 HC5 HF5 HBZ5 HBN ⊢
 rw [hgr] at hD2 HBN hs2 ⊢
 clear hw5 hgr
 refine (l1Below_s A n c g 14 bs w5 HC5.out hn (by omega) (by omega)).mono ?_
 rintro e w6 ⟨r, rfl, hr3, hc6, hg6⟩
 have HC6 := Lib.hid hc6
 have HF6 := Lib.hid (HF5.out.draw hg6 (by omega))
 have HBZ6 := Lib.hid (HBZ5.out.grown hg6 (fun e => by injection e with e; omega))
 have HBN6 := Lib.hid (HBN.out.grown hg6 (fun e => by injection e with e; omega))
 have HO6 := Lib.hid (own_keptD HO5.out hg6 (fun b e r => by injection r with r; have := (own_lt HO5.out b e).1; omega))
 have hs6 : w.heap.size + 1 < w6.heap.size := by have := hg6.size; omega
 have HD2 := Lib.hid hD2
 clear hc6 hg6 HC5 HF5 HBZ5 HBN HO5 hD2
 by_cases h0 : r = 0
 ·have e0 : ((r : Int) == 0) = true := by simp [h0]
  clear h0 hr3
  go_wp2_with fail
  refine (l1PickInt_s A (some ⟨w6.heap.size, 0, none⟩) n c g 4 4 [0, 7, -1, 2] bs _ (HC6.out.below (bel_alloc (Below.refl _ _) _)) hn (rd_new w6 3 _) rfl (by omega) (by omega) (fun b e => by simp only [ob, Option.map_some, Option.some.injEq] at e; omega)).mono ?_
  rintro e w7 ⟨v, rfl, hv, hc7, hg7⟩
  have HC7 := Lib.hid hc7
  have HF7 := Lib.hid ((HF6.out.below (bel_alloc (Below.refl _ _) _) (by omega)).draw hg7 (by simp; omega))
  have HZ7 := Lib.hid ((HBZ6.out.alloc _).grown hg7 (fun e => by injection e with e; omega))
  have HB7 := Lib.hid ((HBN6.out.alloc _).grown hg7 (fun e => by injection e with e; omega))
  have HO7 := Lib.hid (own_keptD (HO6.out.alloc _) hg7 (fun b e r => by injection r with r; have := (own_lt HO6.out b e).1; omega))
  have hs7 : w.heap.size + 1 < w7.heap.size := by have := hg7.size; simp at this; omega
  have b0 : w7.cell? ⟨gr, 0, none⟩ = some (.int .i64 (m : Int)) := by simpa using HB7.out.cell 0
  have bf := HB7.out.frozen 0
  have bl := HB7.out.lt
  have gg : w7.grownBy (w7.setCell ⟨gr, 0, none⟩ (.int .i64 v)) (some gr) := grown_set (p := ⟨gr, 0, none⟩) (World.grownBy.refl _ _) rfl _
  have HB8 : Hid (Blk (w7.setCell ⟨gr, 0, none⟩ (.int .i64 v)) gr 26 #[.int .i64 v, .slice D k cD]) := HB7.out.set_ 0 (.int .i64 v)
  have HO8 := Lib.hid (own_set HO7.out (p := ⟨gr, 0, none⟩) (fun b e => by have := HD2.out b e; show b ≠ gr; omega) (.int .i64 v))
  have HC8 := Lib.hid (HC7.out.row gg (fun b e => by injection e with e; omega) (fun h0 b e r => HAB.out h0 b r (by injection e with e; omega)))
  have HF8 := Lib.hid (HF7.out.row gg (by omega) (fun b e => by injection e with e; omega))
  have HZ8 := Lib.hid (HZ7.out.grown gg (fun e => by injection e with e; omega))
  have hs8 : w.heap.size + 1 < (w7.setCell ⟨gr, 0, none⟩ (.int .i64 v)).heap.size := by simpa using hs7
  obtain ⟨u, hu⟩ : ∃ u, w7.setCell ⟨gr, 0, none⟩ (.int .i64 v) = u := ⟨_, rfl⟩
  rw [hu] at HB8 HO8 HC8 HF8 HZ8 hs8
  have HU := Lib.hid hu
  clear hc7 hg7 HC7 HF7 HZ7 HB7 HO7 gg hu HC6 HF6 HBZ6 HBN6 HO6
  go_upto_region 9 with fail
  rw [HU.out]
  clear HU b0 bf bl
  have c0 : u.cell? ⟨gr, 0, none⟩ = some (.int .i64 v) := by simpa using (HB8.out).cell 0
  have c1 : u.cell? ⟨gr, 1, none⟩ = some (.slice D k cD) := by simpa using (HB8.out).cell 1
  have cl := (HB8.out).lt
  have z0 : u.cell? ⟨w.heap.size, 0, none⟩ = some (.int .i64 0) := by simpa using (HZ8.out).cell 0
  have z1 : u.cell? ⟨w.heap.size, 1, none⟩ = some (.slice none 0 0) := by simpa using (HZ8.out).cell 1
  have g0 := (HZ8.out).frozen 0
  have g1 := (HZ8.out).frozen 1
  have zl := (HZ8.out).lt
  have hD := ((HZ8.out).set_ 0 (.int .i64 v)).set_ 1 (.slice D k cD)
  have e0 : ((u.setCell ⟨w.heap.size, 0, none⟩ (.int .i64 v)).setCell ⟨w.heap.size, 1, none⟩ (.slice D k cD)).cell? ⟨w.heap.size, 0, none⟩ = some (.int .i64 v) := by simpa using hD.cell 0
  have e1 : ((u.setCell ⟨w.heap.size, 0, none⟩ (.int .i64 v)).setCell ⟨w.heap.size, 1, none⟩ (.slice D k cD)).cell? ⟨w.heap.size, 1, none⟩ = some (.slice D k cD) := by simpa using hD.cell 1
  have E0 := Lib.hid e0
  have E1 := Lib.hid e1
  clear hD e0 e1
  go_wp2_with fail
  have e0 := E0.out
  have e1 := E1.out
  have ne : ∀ b, ob D = some b → b ≠ w.heap.size := fun b e => by have := (own_lt (HO8.out) b e).1; omega
  have gz : u.grownBy ((u.setCell ⟨w.heap.size, 0, none⟩ (.int .i64 v)).setCell ⟨w.heap.size, 1, none⟩ (.slice D k cD)) (some w.heap.size) := grown_set (p := ⟨w.heap.size, 1, none⟩) (grown_set (p := ⟨w.heap.size, 0, none⟩) (World.grownBy.refl _ _) rfl _) rfl _
  exact bodyPost_ret (v := .agg #[.int .i64 v, .slice D k cD]) (by simp [results, Tryz.results174, go_sem, e0, e1]) rfl
   ⟨v, k, D, cD, _, rfl, own_set (own_set (HO8.out) ne _) ne _, (by omega), (HC8.out).row gz (fun b e => by injection e with e; omega) (fun h0 b e r => HAB.out h0 b r (by injection e with e; omega)), ((HF8.out).row gz (by omega) (fun b e => by injection e with e; omega)).grown⟩
 ·have e0 : ((r : Int) == 0) = false := by simp only [beq_eq_false_iff_ne]; omega
  by_cases h1 : r = 1
  ·have e1 : ((r : Int) == 1) = true := by simp [h1]
   clear h0 h1 hr3
   obtain ⟨gd, hD, hgb, hgl2⟩ := own_someD HO6.out hk1
   subst hD
   have hgd : gd < gr := HD2.out gd rfl
   have b1 : w6.cell? ⟨gr, 1, none⟩ = some (.slice (some ⟨gd, 0, none⟩) k cD) := by simpa using HBN6.out.cell 1
   have bl := HBN6.out.lt
   have hk0 : (0 : Int) < (k : Int) := by omega
   have hkN : 0 < k := by omega
   have hrl : 0 < rows.length := by have := own_len HO6.out; rw [vI_length] at this; omega
   go_wp2_with fail
   go_region_with (go_at_call 144; refine (l1PickInt_s A (some ⟨w6.heap.size, 0, none⟩) n c g 3 3 [-1, 64, 9223372036854775807] bs _ (HC6.out.below (bel_alloc (bel_drew (Below.refl _ _)) _)) hn (rd_new w6 3 _) rfl (by omega) (by omega) (fun b e => by simp only [ob, Option.map_some, Option.some.injEq] at e; omega)).mono ?_; rintro e w7 ⟨v, rfl, hv, hc7, hg7⟩; have HC7 := Lib.hid hc7; have HG7 := Lib.hid hg7; clear hc7 hg7; have HO7 := Lib.hid (own_keptD (own_keep HO6.out (bel_alloc (bel_drew (Below.refl _ _)) _)) HG7.out (fun b e r => by injection r with r; have := (own_lt HO6.out b e).1; omega)); have HB7 := Lib.hid ((HBN6.out.below (bel_alloc (bel_drew (Below.refl _ _)) _)).grown HG7.out (fun e => by injection e with e; omega)); have x1 : w7.cell? ⟨gr, 1, none⟩ = some (.slice (some ⟨gd, 0, none⟩) k cD) := (by simpa using HB7.out.cell 1); have xl := HB7.out.lt; obtain ⟨ga, oa, hA7, hga, d7⟩ := RdI.at_ (Rd.of_own HO7.out) hrl; injection hA7 with hA7; injection hA7 with hA71 hA72; subst hA71 hA72; have d8 : w7.cell? ⟨gd, 0, none⟩ = some (.int .i64 rows[0]) := d7; have f8 := own_frz HO7.out 0)
   all_goals
    have hZ7 := ((HBZ6.out.below (bel_alloc (bel_drew (Below.refl _ _)) (.cells #[.int .i64 (-1), .int .i64 64, .int .i64 9223372036854775807] 3))).grown HG7.out (fun e => by injection e with e; omega))
    have hF7 := ((HF6.out.below (bel_alloc (bel_drew (Below.refl _ _)) (.cells #[.int .i64 (-1), .int .i64 64, .int .i64 9223372036854775807] 3)) (by omega)).draw HG7.out (by simp; omega))
    have gg : w7.grownBy (w7.setCell ⟨gd, 0, none⟩ (.int .i64 v)) (some gd) := grown_set (p := ⟨gd, 0, none⟩) (World.grownBy.refl _ _) rfl _
    have hB8 := HB7.out.far (p := ⟨gd, 0, none⟩) (by show gr ≠ gd; omega) (.int .i64 v)
    have hO8 := own_putI HO7.out hkN v
    have hC8 := HC7.out.row gg (fun b e => by injection e with e; omega) (fun h0 b e r => HAB.out h0 b r (by injection e with e; omega))
    have hF8 := hF7.row gg (by have := HG7.out.size; simp at this; omega) (fun b e => by injection e with e; omega)
    have hZ8 := hZ7.grown gg (fun e => by injection e with e; omega)
    have hs8 : w.heap.size + 1 < (w7.setCell ⟨gd, 0, none⟩ (.int .i64 v)).heap.size := by have := HG7.out.size; simp at this ⊢; omega
    obtain ⟨u, hu⟩ : ∃ u, w7.setCell ⟨gd, 0, none⟩ (.int .i64 v) = u := ⟨_, rfl⟩
    rw [hu] at hB8 hO8 hC8 hF8 hZ8 hs8 ⊢
    have HB8 := Lib.hid hB8
    have HO8 := Lib.hid hO8
    have HC8 := Lib.hid hC8
    have HF8 := Lib.hid hF8
    have HZ8 := Lib.hid hZ8
    clear hZ7 hF7 gg hB8 hO8 hC8 hF8 hZ8 hu x1 xl d7 d8 f8 b1 bl
    have c0 : u.cell? ⟨gr, 0, none⟩ = some (.int .i64 (m : Int)) := by simpa using (HB8.out).cell 0
    have c1 : u.cell? ⟨gr, 1, none⟩ = some (.slice (some ⟨gd, 0, none⟩) k cD) := by simpa using (HB8.out).cell 1
    have cl := (HB8.out).lt
    have z0 : u.cell? ⟨w.heap.size, 0, none⟩ = some (.int .i64 0) := by simpa using (HZ8.out).cell 0
    have z1 : u.cell? ⟨w.heap.size, 1, none⟩ = some (.slice none 0 0) := by simpa using (HZ8.out).cell 1
    have g0 := (HZ8.out).frozen 0
    have g1 := (HZ8.out).frozen 1
    have zl := (HZ8.out).lt
    have hD := ((HZ8.out).set_ 0 (.int .i64 (m : Int))).set_ 1 (.slice (some ⟨gd, 0, none⟩) k cD)
    have e0 : ((u.setCell ⟨w.heap.size, 0, none⟩ (.int .i64 (m : Int))).setCell ⟨w.heap.size, 1, none⟩ (.slice (some ⟨gd, 0, none⟩) k cD)).cell? ⟨w.heap.size, 0, none⟩ = some (.int .i64 (m : Int)) := by simpa using hD.cell 0
    have e1 : ((u.setCell ⟨w.heap.size, 0, none⟩ (.int .i64 (m : Int))).setCell ⟨w.heap.size, 1, none⟩ (.slice (some ⟨gd, 0, none⟩) k cD)).cell? ⟨w.heap.size, 1, none⟩ = some (.slice (some ⟨gd, 0, none⟩) k cD) := by simpa using hD.cell 1
    have E0 := Lib.hid e0
    have E1 := Lib.hid e1
    clear hD e0 e1
    go_wp2_with fail
    have e0 := E0.out
    have e1 := E1.out
    have ne : ∀ b, ob (some ⟨gd, 0, none⟩) = some b → b ≠ w.heap.size := fun b e => by have := (own_lt (HO8.out) b e).1; omega
    have gz : u.grownBy ((u.setCell ⟨w.heap.size, 0, none⟩ (.int .i64 (m : Int))).setCell ⟨w.heap.size, 1, none⟩ (.slice (some ⟨gd, 0, none⟩) k cD)) (some w.heap.size) := grown_set (p := ⟨w.heap.size, 1, none⟩) (grown_set (p := ⟨w.heap.size, 0, none⟩) (World.grownBy.refl _ _) rfl _) rfl _
    exact bodyPost_ret (v := .agg #[.int .i64 (m : Int), .slice (some ⟨gd, 0, none⟩) k cD]) (by simp [results, Tryz.results174, go_sem, e0, e1]) rfl
     ⟨(m : Int), k, (some ⟨gd, 0, none⟩), cD, _, rfl, own_set (own_set (HO8.out) ne _) ne _, (by omega), (HC8.out).row gz (fun b e => by injection e with e; omega) (fun h0 b e r => HAB.out h0 b r (by injection e with e; omega)), ((HF8.out).row gz (by omega) (fun b e => by injection e with e; omega)).grown⟩
  ·have e1 : ((r : Int) == 1) = false := by simp only [beq_eq_false_iff_ne]; omega
   by_cases h2 : r = 2
   ·have e2 : ((r : Int) == 2) = true := by simp [h2]
    clear h0 h1 h2 hr3
    have b1 : w6.cell? ⟨gr, 1, none⟩ = some (.slice D k cD) := by simpa using HBN6.out.cell 1
    have bl := HBN6.out.lt
    have bf := HBN6.out.frozen 1
    go_upto_region 9 with (at_builtin; go_must (refine app_I _ rfl _ _ rfl (w.heap.size + 1) _ _ _ rows rfl (HO6.out.alloc _) _ _ _ [1, 1, 1] rfl (rd_new w6 3 _) rfl (by omega) (by simp; omega) ?_); intro D6 c6 w7 ho6 hg6 hat6; have HO7 := Lib.hid ho6; have HG7 := Lib.hid hg6; have HAT7 := Lib.hid hat6; clear ho6 hg6 hat6; have HB7 := Lib.hid ((HBN6.out.alloc (.cells #[.int .i64 1, .int .i64 1, .int .i64 1] 3)).grown HG7.out (fun e => by have := HD2.out gr e.symm; omega)); have d6 : w7.cell? ⟨gr, 1, none⟩ = some (.slice D k cD) := (by simpa using HB7.out.cell 1); have f6 := HB7.out.frozen 1; have l6 := HB7.out.lt)
    have hg2 : w6.grownBy w7 (ob D) := ⟨HG7.out.os, HG7.out.tape, HG7.out.output, by have h3 := HG7.out.size; simp at h3; omega, fun b hb hn => (HG7.out.block b (by simp; omega) hn).trans (Below.heap_alloc w6 _ b hb)⟩
    have hDlo : ∀ b, ob D = some b → w.heap.size + 1 ≤ b := fun b e => (own_lt HO6.out b e).1
    have gg : w7.grownBy (w7.setCell ⟨gr, 1, none⟩ (.slice D6 (k + 3) c6)) (some gr) := grown_set (p := ⟨gr, 1, none⟩) (World.grownBy.refl _ _) rfl _
    have hB8 : Blk (w7.setCell ⟨gr, 1, none⟩ (.slice D6 (k + 3) c6)) gr 26 #[.int .i64 (m : Int), .slice D6 (k + 3) c6] := HB7.out.set_ 1 _
    have hD6 : ∀ b, ob D6 = some b → b ≠ gr := fun b e => by
     have hbn := HBN6.out.lt
     rcases HAT7.out with h | h
     ·have := HD2.out b (h ▸ e); omega
     ·rw [h] at e
      injection e with e
      rw [World.size_alloc] at e
      omega
    have hO8 := own_set HO7.out (p := ⟨gr, 1, none⟩) hD6 (.slice D6 (k + 3) c6)
    have hC7 := HC6.out.row hg2 (fun b e => by have := hDlo b e; omega) (fun h0 b e r => HAB.out h0 b r (by have := hDlo b e; omega))
    have hC8 := hC7.row gg (fun b e => by injection e with e; omega) (fun h0 b e r => HAB.out h0 b r (by injection e with e; omega))
    have hF8 := (HF6.out.row hg2 (by omega) (fun b e => by have := hDlo b e; omega)).row gg (by have := hg2.size; omega) (fun b e => by injection e with e; omega)
    have hZ8 := (HBZ6.out.grown hg2 (fun e => by have := hDlo _ e.symm; omega)).grown gg (fun e => by injection e with e; omega)
    have hs8 : w.heap.size + 1 < (w7.setCell ⟨gr, 1, none⟩ (.slice D6 (k + 3) c6)).heap.size := by have := hg2.size; simp; omega
    obtain ⟨u, hu⟩ : ∃ u, w7.setCell ⟨gr, 1, none⟩ (.slice D6 (k + 3) c6) = u := ⟨_, rfl⟩
    rw [hu] at hB8 hO8 hC8 hF8 hZ8 hs8 ⊢
    have HB8 := Lib.hid hB8
    have HO8 := Lib.hid hO8
    have HC8 := Lib.hid hC8
    have HF8 := Lib.hid hF8
    have HZ8 := Lib.hid hZ8
    clear hg2 hDlo gg hD6 hC7 hB8 hO8 hC8 hF8 hZ8 hu d6 f6 l6 b1 bl bf
    have c0 : u.cell? ⟨gr, 0, none⟩ = some (.int .i64 (m : Int)) := by simpa using (HB8.out).cell 0
    have c1 : u.cell? ⟨gr, 1, none⟩ = some (.slice D6 (k + 3) c6) := by simpa using (HB8.out).cell 1
    have cl := (HB8.out).lt
    have z0 : u.cell? ⟨w.heap.size, 0, none⟩ = some (.int .i64 0) := by simpa using (HZ8.out).cell 0
    have z1 : u.cell? ⟨w.heap.size, 1, none⟩ = some (.slice none 0 0) := by simpa using (HZ8.out).cell 1
    have g0 := (HZ8.out).frozen 0
    have g1 := (HZ8.out).frozen 1
    have zl := (HZ8.out).lt
    have hD := ((HZ8.out).set_ 0 (.int .i64 (m : Int))).set_ 1 (.slice D6 (k + 3) c6)
    have e0 : ((u.setCell ⟨w.heap.size, 0, none⟩ (.int .i64 (m : Int))).setCell ⟨w.heap.size, 1, none⟩ (.slice D6 (k + 3) c6)).cell? ⟨w.heap.size, 0, none⟩ = some (.int .i64 (m : Int)) := by simpa using hD.cell 0
    have e1 : ((u.setCell ⟨w.heap.size, 0, none⟩ (.int .i64 (m : Int))).setCell ⟨w.heap.size, 1, none⟩ (.slice D6 (k + 3) c6)).cell? ⟨w.heap.size, 1, none⟩ = some (.slice D6 (k + 3) c6) := by simpa using hD.cell 1
    have E0 := Lib.hid e0
    have E1 := Lib.hid e1
    clear hD e0 e1
    go_wp2_with fail
    have e0 := E0.out
    have e1 := E1.out
    have ne : ∀ b, ob D6 = some b → b ≠ w.heap.size := fun b e => by have := (own_lt (HO8.out) b e).1; omega
    have gz : u.grownBy ((u.setCell ⟨w.heap.size, 0, none⟩ (.int .i64 (m : Int))).setCell ⟨w.heap.size, 1, none⟩ (.slice D6 (k + 3) c6)) (some w.heap.size) := grown_set (p := ⟨w.heap.size, 1, none⟩) (grown_set (p := ⟨w.heap.size, 0, none⟩) (World.grownBy.refl _ _) rfl _) rfl _
    exact bodyPost_ret (v := .agg #[.int .i64 (m : Int), .slice D6 (k + 3) c6]) (by simp [results, Tryz.results174, go_sem, e0, e1]) rfl
     ⟨(m : Int), (k + 3), D6, c6, _, rfl, own_set (own_set (HO8.out) ne _) ne _, (by omega), (HC8.out).row gz (fun b e => by injection e with e; omega) (fun h0 b e r => HAB.out h0 b r (by injection e with e; omega)), ((HF8.out).row gz (by omega) (fun b e => by injection e with e; omega)).grown⟩
   ·have e2 : ((r : Int) == 2) = false := by simp only [beq_eq_false_iff_ne]; omega
    clear h0 h1 h2 hr3
    have c0 : w6.cell? ⟨gr, 0, none⟩ = some (.int .i64 (m : Int)) := by simpa using (HBN6.out).cell 0
    have c1 : w6.cell? ⟨gr, 1, none⟩ = some (.slice D k cD) := by simpa using (HBN6.out).cell 1
    have cl := (HBN6.out).lt
    have z0 : w6.cell? ⟨w.heap.size, 0, none⟩ = some (.int .i64 0) := by simpa using (HBZ6.out).cell 0
    have z1 : w6.cell? ⟨w.heap.size, 1, none⟩ = some (.slice none 0 0) := by simpa using (HBZ6.out).cell 1
    have g0 := (HBZ6.out).frozen 0
    have g1 := (HBZ6.out).frozen 1
    have zl := (HBZ6.out).lt
    have hD := ((HBZ6.out).set_ 0 (.int .i64 (m : Int))).set_ 1 (.slice D k cD)
    have e0 : ((w6.setCell ⟨w.heap.size, 0, none⟩ (.int .i64 (m : Int))).setCell ⟨w.heap.size, 1, none⟩ (.slice D k cD)).cell? ⟨w.heap.size, 0, none⟩ = some (.int .i64 (m : Int)) := by simpa using hD.cell 0
    have e1 : ((w6.setCell ⟨w.heap.size, 0, none⟩ (.int .i64 (m : Int))).setCell ⟨w.heap.size, 1, none⟩ (.slice D k cD)).cell? ⟨w.heap.size, 1, none⟩ = some (.slice D k cD) := by simpa using hD.cell 1
    have E0 := Lib.hid e0
    have E1 := Lib.hid e1
    clear hD e0 e1
    go_wp2_with fail
    have e0 := E0.out
    have e1 := E1.out
    have ne : ∀ b, ob D = some b → b ≠ w.heap.size := fun b e => by have := (own_lt (HO6.out) b e).1; omega
    have gz : w6.grownBy ((w6.setCell ⟨w.heap.size, 0, none⟩ (.int .i64 (m : Int))).setCell ⟨w.heap.size, 1, none⟩ (.slice D k cD)) (some w.heap.size) := grown_set (p := ⟨w.heap.size, 1, none⟩) (grown_set (p := ⟨w.heap.size, 0, none⟩) (World.grownBy.refl _ _) rfl _) rfl _
    exact bodyPost_ret (v := .agg #[.int .i64 (m : Int), .slice D k cD]) (by simp [results, Tryz.results174, go_sem, e0, e1]) rfl
     ⟨(m : Int), k, D, cD, _, rfl, own_set (own_set (HO6.out) ne _) ne _, (by omega), (HC6.out).row gz (fun b e => by injection e with e; omega) (fun h0 b e r => HAB.out h0 b r (by injection e with e; omega)), ((HF6.out).row gz (by omega) (fun b e => by injection e with e; omega)).grown⟩
end

section
def CRow (w : World) (x : H) (f : List C) : Prop := f.length = x.2.1 ∧ Rd w x.1 (vC f) ∧ (∀ g, ob x.1 = some g → ∃ cur z, w.heap[g]? = some (.cells cur 87 z)) ∧ x.2.1 ≤ x.2.2
structure RdF (w : World) (A : Option Addr) (n : Nat) (hs : List H) (F : List (List C)) : Prop where
 top : Rd w A (vS hs)
 hlen : hs.length = n
 flen : F.length = n
 row : ∀ (i : Nat) x f, hs[i]? = some x → F[i]? = some f → CRow w x f
structure OwnF (base : Nat) (w : World) (A : Option Addr) (n c : Nat) (hs : List H) (F : List (List C)) : Prop where
 own : w.ownsRow base 52 1 (.slice A n c) n (vS hs)
 flen : F.length = n
 row : ∀ (i : Nat) x f, hs[i]? = some x → F[i]? = some f → CRow w x f
section
variable {w w' : World} {x : H} {f : List C} {A : Option Addr} {n c base : Nat} {hs : List H} {F : List (List C)}
theorem CRow.lt (h : CRow w x f) : ∀ g, ob x.1 = some g → g < w.heap.size := fun g e => by
 obtain ⟨cur, z, h1⟩ := h.2.2.1 g e
 exact (Array.getElem?_eq_some_iff.1 h1).1
theorem CRow.below (h : CRow w x f) (hb : Below w.heap.size w w') : CRow w' x f :=
 ⟨h.1, h.2.1.below hb, fun g e => by obtain ⟨cur, z, h1⟩ := h.2.2.1 g e; exact ⟨cur, z, (hb.block g (Array.getElem?_eq_some_iff.1 h1).1).trans h1⟩, h.2.2.2⟩
theorem CRow.of_own (h : w.ownsRow base 87 2 (.slice A n c) n (vC f)) : CRow w (A, n, c) f := by
 refine ⟨by have := own_len h; rw [vC_length] at this; show f.length = n; omega, Rd.of_own h, fun g e => ?_, ?_⟩
 ·rcases h.2 with ⟨hv, _⟩ | ⟨g', cap, cur, hv, _, hg, _⟩
  ·injection hv with hA
   subst hA
   simp [ob] at e
  ·injection hv with hA
   subst hA
   simp only [ob, Option.map_some, Option.some.injEq] at e
   subst e
   exact ⟨cur, _, hg⟩
 ·show n ≤ c
  rcases h.2 with ⟨hv, hn⟩ | ⟨g', cap, cur, hv, hb, hg, hnc, _⟩
  ·omega
  ·injection hv with _ _ h3
   omega
theorem CRow.apart (h : CRow w x f) {A : Option Addr} {n c base : Nat} {vs : List Value} {sz : Nat} (ho : w.ownsRow base 52 sz (.slice A n c) n vs) : ∀ g, ob x.1 = some g → ob A ≠ some g := by
 intro g e ea
 obtain ⟨cur, z, h1⟩ := h.2.2.1 g e
 rcases ho.2 with ⟨hv, _⟩ | ⟨g', cap, cur', hv, _, hg, _⟩
 ·injection hv with hA
  subst hA
  simp [ob] at ea
 ·injection hv with hA
  subst hA
  simp only [ob, Option.map_some, Option.some.injEq] at ea
  subst ea
  rw [h1] at hg
  injection hg with hg
  injection hg with _ h3
  exact absurd h3 (by decide)
theorem CRow.grown {row : Option Nat} (h : CRow w x f) (hg : w.grownBy w' row) (hn : ∀ g, ob x.1 = some g → row ≠ some g) : CRow w' x f :=
 ⟨h.1, h.2.1.grown hg (fun g e r => hn g (by simpa using e) r.symm), fun g e => by
  obtain ⟨cur, z, h1⟩ := h.2.2.1 g e
  exact ⟨cur, z, (hg.block g (Array.getElem?_eq_some_iff.1 h1).1 (fun r => hn g e r.symm)).trans h1⟩, h.2.2.2⟩
theorem OwnF.hlen (h : OwnF base w A n c hs F) : hs.length = n := by have := own_len h.own; rw [vS_length] at this; omega
theorem OwnF.rd (h : OwnF base w A n c hs F) : RdF w A n hs F := ⟨Rd.of_own h.own, h.hlen, h.flen, h.row⟩
theorem RdF.below (h : RdF w A n hs F) (hb : Below w.heap.size w w') : RdF w' A n hs F := ⟨h.top.below hb, h.hlen, h.flen, fun i x f a b => (h.row i x f a b).below hb⟩
theorem OwnF.below (h : OwnF base w A n c hs F) (hb : Below w.heap.size w w') : OwnF base w' A n c hs F := ⟨own_keep h.own hb, h.flen, fun i x f a b => (h.row i x f a b).below hb⟩
theorem OwnF.mono {base' : Nat} (h : OwnF base w A n c hs F) (hb : base' ≤ base) : OwnF base' w A n c hs F := ⟨own_base h.own hb, h.flen, h.row⟩
theorem OwnF.nil (base : Nat) (w : World) : OwnF base w none 0 0 [] [] := ⟨own_nil _ _ _ _, rfl, fun i x f a => by simp at a⟩
theorem OwnF.none_ (h : w.ownsRow base 52 1 (.slice A 0 c) 0 []) : OwnF base w A 0 c [] [] := ⟨h, rfl, fun i x f a => by simp at a⟩
theorem RdF.at_ (h : RdF w A n hs F) {k : Nat} (hk : k < n) : ∃ (x : H) (f : List C) (g off : Nat), hs[k]? = some x ∧ F[k]? = some f ∧ A = some ⟨g, off, none⟩ ∧ g < w.heap.size ∧ w.cell? ⟨g, off + k, none⟩ = some (.slice x.1 x.2.1 x.2.2) ∧ CRow w x f := by
 have a : k < hs.length := by rw [h.hlen]; exact hk
 have b : k < F.length := by rw [h.flen]; exact hk
 obtain ⟨g, off, e, hg, c1⟩ := RdS.at_ h.top a
 exact ⟨hs[k], F[k], g, off, List.getElem?_eq_getElem a, List.getElem?_eq_getElem b, e, hg, c1, h.row k _ _ (List.getElem?_eq_getElem a) (List.getElem?_eq_getElem b)⟩
end
def RetF (w : World) (F : List (List C)) (e : Ending) (w' : World) : Prop :=
 ∃ A n c hs, e = .returned (.slice A n c) ∧ OwnF w.heap.size w' A n c hs F ∧ Below w.heap.size w w'
theorem countP_cut {α : Type} {p : α → Bool} {F : List α} {k : Nat} (hk : k ≤ F.length) (h1 : ∀ (t : Nat) x, t < k → F[t]? = some x → p x = true) (h2 : ∀ (t : Nat) x, k ≤ t → F[t]? = some x → p x = false) : F.countP p = k := by
 have e : F.countP p = (F.take k).countP p + (F.drop k).countP p := by rw [← List.countP_append, List.take_append_drop]
 have e1 : (F.take k).countP p = k := by
  have : (F.take k).countP p = (F.take k).length := by
   rw [List.countP_eq_length]
   intro x hx
   obtain ⟨i, hi, rfl⟩ := List.mem_iff_getElem.1 hx
   rw [List.length_take] at hi
   exact h1 i _ (by omega) (by rw [List.getElem_take]; exact List.getElem?_eq_getElem (by omega))
  rw [this, List.length_take]
  omega
 have e2 : (F.drop k).countP p = 0 := by
  rw [List.countP_eq_zero]
  intro x hx
  obtain ⟨i, hi, rfl⟩ := List.mem_iff_getElem.1 hx
  rw [List.length_drop] at hi
  rw [List.getElem_drop]
  simpa using h2 (k + i) _ (by omega) (List.getElem?_eq_getElem (by omega))
 omega
end

section
attribute [local go_sem ↓] Go.wp_at_zero Go.wp_at_succ
theorem CompareShapes_i (A B : Option Addr) (n c m d : Nat) (xs ys : List C) (w : World) (hr : Rd w A (vC xs)) (hr2 : Rd w B (vC ys)) (hl : xs.length = n) (hl2 : ys.length = m) (hn : n ≤ 1099511627776) (hm : m ≤ 1099511627776) :
  Calls Tryz.prog 138 #[.slice A n c, .slice B m d] w (Ret w (.int .i64 (cmpS xs ys))) := by
 rcases Nat.lt_trichotomy n m with hlt | heq | hgt
 ·have HV : Hid (cmpS xs ys = -1) := cmpS_len (by omega)
  have h1 : (n : Int) < (m : Int) := by omega
  have h2 : ((n : Int) != (m : Int)) = true := by rw [bne_iff_ne]; omega
  clear hl hl2
  go_enter Tryz.func138, Tryz.ntmps138
  go_wp2
  go_ret
  exact ⟨by rw [HV.out]; rfl, (by (repeat (first | with_reducible exact Below.refl _ _ | with_reducible assumption | with_reducible apply bel_alloc | with_reducible apply bel_drew | with_reducible apply bel_drewN | ((with_reducible refine bel_set ?_ ?_); rotate_left; (simp <;> omega)) | (with_reducible refine bel_trans ?_ (by with_reducible assumption)))))⟩
 ·subst heq
  have HLL : Hid (xs.length = ys.length) := hl.trans hl2.symm
  have HL := Lib.hid hl
  have HL2 := Lib.hid hl2
  have h1 : decide ((n : Int) < (n : Int)) = false := by simp
  clear hl hl2
  go_enter Tryz.func138, Tryz.ntmps138
  go_wp2
  go_loopw [20] (fun e5 wr => ∃ k : Nat, k ≤ n ∧ e5 = .int .i64 k ∧ xs.take k = ys.take k ∧ Below w.heap.size w wr) (fun e5 _ => n - (intOf e5).toNat)
  case atStart => exact ⟨0, Nat.zero_le _, rfl, rfl, Below.refl _ _⟩
  case round =>
   obtain ⟨k, hk, rfl, htk, hb⟩ := hrel
   have HT := Lib.hid htk
   clear htk
   by_cases hkn : k < n
   ·have hk1 : k < xs.length := by rw [HL.out]; exact hkn
    have hk2 : k < ys.length := by rw [HL2.out]; exact hkn
    have hk0 : (0 : Int) ≤ (k : Int) := by omega
    have hkI : (k : Int) < (n : Int) := by omega
    obtain ⟨g1, o1, rfl, hg1, a1, a2⟩ := RdC.at_ (hr.below hb) hk1
    obtain ⟨g2, o2, rfl, hg2, b1, b2⟩ := RdC.at_ (hr2.below hb) hk2
    obtain ⟨x, hx⟩ : ∃ x, xs[k].1 = x := ⟨_, rfl⟩
    obtain ⟨y, hy⟩ : ∃ y, xs[k].2 = y := ⟨_, rfl⟩
    obtain ⟨p, hp⟩ : ∃ p, ys[k].1 = p := ⟨_, rfl⟩
    obtain ⟨q, hq⟩ : ∃ q, ys[k].2 = q := ⟨_, rfl⟩
    have hxy : xs[k] = (x, y) := Prod.ext hx hy
    have hpq : ys[k] = (p, q) := Prod.ext hp hq
    rw [hx] at a1
    rw [hy] at a2
    rw [hp] at b1
    rw [hq] at b2
    have HAT := Lib.hid (cmpS_at HLL.out hk1 HT.out (x, y) (p, q) hxy hpq)
    have HST : Hid ((x, y) = (p, q) → xs.take (k + 1) = ys.take (k + 1)) := fun e => take_eq_step hk1 hk2 HT.out (by rw [hxy, hpq, e])
    clear hx hy hp hq hxy hpq
    cases h3 : befC (x, y) (p, q) with
    | true =>
     have HV := Lib.hid (HAT.out.1 h3)
     have H3 := Lib.hid h3
     clear h3
     go_wp2_with fail
     (refine wp_region_below (by kernel_rfl) (by kernel_rfl) ?_; (repeat (first | go_big_quiet_skip | (refine quietV (v := ?_) (by rfl) rfl (fun w' hbw => ?_) ?_; rotate_left; ((try dsimp only at hbw); have hbc := (bcell hbw).1; have hbf := (bcell hbw).2; go_simp; first | done | with_reducible rfl | exact callsBB (before_i x y p q _) H3.out hbw); simp only [sq1, sq2, sq3]))); refine wpQuiet_nil ?_; intro wq hbq)
     go_wp2_with fail
     go_ret
     exact ⟨by rw [HV.out]; rfl, (by (repeat (first | with_reducible exact Below.refl _ _ | with_reducible assumption | with_reducible apply bel_alloc | with_reducible apply bel_drew | with_reducible apply bel_drewN | ((with_reducible refine bel_set ?_ ?_); rotate_left; (simp <;> omega)) | (with_reducible refine bel_trans ?_ (by with_reducible assumption)))))⟩
    | false =>
     have H3 := Lib.hid h3
     cases h4 : befC (p, q) (x, y) with
     | true =>
      have HV := Lib.hid (HAT.out.2 h4)
      have H4 := Lib.hid h4
      clear h3 h4
      go_wp2_with fail
      (refine wp_region_below (by kernel_rfl) (by kernel_rfl) ?_; (repeat (first | go_big_quiet_skip | (refine quietV (v := ?_) (by rfl) rfl (fun w' hbw => ?_) ?_; rotate_left; ((try dsimp only at hbw); have hbc := (bcell hbw).1; have hbf := (bcell hbw).2; go_simp; first | done | with_reducible rfl | exact callsBB (before_i x y p q _) H3.out hbw); simp only [sq1, sq2, sq3]))); refine wpQuiet_nil ?_; intro wq hbq)
      have c1 := (hbq.cell hg1).trans a1
      have c2 := (hbq.cell hg1).trans a2
      have c3 := (hbq.cell hg2).trans b1
      have c4 := (hbq.cell hg2).trans b2
      have hg3 : g1 < wq.heap.size := Nat.lt_of_lt_of_le hg1 hbq.size
      have hg4 : g2 < wq.heap.size := Nat.lt_of_lt_of_le hg2 hbq.size
      clear a1 a2 b1 b2 hg1 hg2
      go_wp2_with fail
      (refine wp_region_below (by kernel_rfl) (by kernel_rfl) ?_; (repeat (first | go_big_quiet_skip | (refine quietV (v := ?_) (by rfl) rfl (fun w' hbw => ?_) ?_; rotate_left; ((try dsimp only at hbw); have hbc := (bcell hbw).1; have hbf := (bcell hbw).2; go_simp; first | done | with_reducible rfl | exact callsBB (before_i p q x y _) H4.out hbw); simp only [sq1, sq2, sq3]))); refine wpQuiet_nil ?_; intro wz hbz)
      go_wp2_with fail
      go_ret
      exact ⟨by rw [HV.out]; rfl, bel_trans (bel_trans hb hbq) hbz⟩
     | false =>
      have HE := Lib.hid (befC_sto.tot h3 h4)
      have H4 := Lib.hid h4
      clear h3 h4
      go_wp2_with fail
      (refine wp_region_below (by kernel_rfl) (by kernel_rfl) ?_; (repeat (first | go_big_quiet_skip | (refine quietV (v := ?_) (by rfl) rfl (fun w' hbw => ?_) ?_; rotate_left; ((try dsimp only at hbw); have hbc := (bcell hbw).1; have hbf := (bcell hbw).2; go_simp; first | done | with_reducible rfl | exact callsBB (before_i x y p q _) H3.out hbw); simp only [sq1, sq2, sq3]))); refine wpQuiet_nil ?_; intro wq hbq)
      have c1 := (hbq.cell hg1).trans a1
      have c2 := (hbq.cell hg1).trans a2
      have c3 := (hbq.cell hg2).trans b1
      have c4 := (hbq.cell hg2).trans b2
      have hg3 : g1 < wq.heap.size := Nat.lt_of_lt_of_le hg1 hbq.size
      have hg4 : g2 < wq.heap.size := Nat.lt_of_lt_of_le hg2 hbq.size
      clear a1 a2 b1 b2 hg1 hg2
      go_wp2_with fail
      (refine wp_region_below (by kernel_rfl) (by kernel_rfl) ?_; (repeat (first | go_big_quiet_skip | (refine quietV (v := ?_) (by rfl) rfl (fun w' hbw => ?_) ?_; rotate_left; ((try dsimp only at hbw); have hbc := (bcell hbw).1; have hbf := (bcell hbw).2; go_simp; first | done | with_reducible rfl | exact callsBB (before_i p q x y _) H4.out hbw); simp only [sq1, sq2, sq3]))); refine wpQuiet_nil ?_; intro wz hbz)
      go_wp2_with fail
      exact ⟨⟨k + 1, by omega, by go_num, HST.out HE.out, bel_trans (bel_trans hb hbq) hbz⟩, by simp [intOf]; omega⟩
   ·have hkn2 : k = n := by omega
    have HV : Hid (cmpS xs ys = 0) := by
     show cmpS xs ys = 0
     rw [take_eq_all HLL.out (by rw [HL.out]; omega) HT.out]
     exact cmpS_eq _
    subst hkn2
    have hk1 : ¬ (k : Int) < (k : Int) := by omega
    go_wp2
    go_ret
    exact ⟨by rw [HV.out]; rfl, hb⟩
 ·have HV : Hid (cmpS xs ys = 1) := cmpS_len2 (by omega)
  have h1 : decide ((n : Int) < (m : Int)) = false := by simp; omega
  have h2 : ((n : Int) != (m : Int)) = true := by rw [bne_iff_ne]; omega
  have h3 : (n : Int) > (m : Int) := by omega
  clear hl hl2
  go_enter Tryz.func138, Tryz.ntmps138
  go_wp2
  go_ret
  exact ⟨by rw [HV.out]; rfl, (by (repeat (first | with_reducible exact Below.refl _ _ | with_reducible assumption | with_reducible apply bel_alloc | with_reducible apply bel_drew | with_reducible apply bel_drewN | ((with_reducible refine bel_set ?_ ?_); rotate_left; (simp <;> omega)) | (with_reducible refine bel_trans ?_ (by with_reducible assumption)))))⟩
theorem CompareShapes_s (A B : Option Addr) (n c m d : Nat) (xs ys : List C) (w : World) (hr : Rd w A (vC xs)) (hr2 : Rd w B (vC ys)) (hl : xs.length = n) (hl2 : ys.length = m) (hn : n ≤ 1099511627776) (hm : m ≤ 1099511627776) :
  Calls Tryz.prog 140 #[.slice A n c, .slice B m d] w (Ret w (.int .i64 (cmpS xs ys))) := by
 rcases Nat.lt_trichotomy n m with hlt | heq | hgt
 ·have HV : Hid (cmpS xs ys = -1) := cmpS_len (by omega)
  have h1 : (n : Int) < (m : Int) := by omega
  have h2 : ((n : Int) != (m : Int)) = true := by rw [bne_iff_ne]; omega
  clear hl hl2
  go_enter Tryz.func140, Tryz.ntmps140
  go_wp2
  go_ret
  exact ⟨by rw [HV.out]; rfl, (by (repeat (first | with_reducible exact Below.refl _ _ | with_reducible assumption | with_reducible apply bel_alloc | with_reducible apply bel_drew | with_reducible apply bel_drewN | ((with_reducible refine bel_set ?_ ?_); rotate_left; (simp <;> omega)) | (with_reducible refine bel_trans ?_ (by with_reducible assumption)))))⟩
 ·subst heq
  have HLL : Hid (xs.length = ys.length) := hl.trans hl2.symm
  have HL := Lib.hid hl
  have HL2 := Lib.hid hl2
  have h1 : decide ((n : Int) < (n : Int)) = false := by simp
  clear hl hl2
  go_enter Tryz.func140, Tryz.ntmps140
  go_wp2
  go_loopw [5] (fun e5 wr => ∃ k : Nat, k ≤ n ∧ e5 = .int .i64 k ∧ xs.take k = ys.take k ∧ Below w.heap.size w wr) (fun e5 _ => n - (intOf e5).toNat)
  case atStart => exact ⟨0, Nat.zero_le _, rfl, rfl, Below.refl _ _⟩
  case round =>
   obtain ⟨k, hk, rfl, htk, hb⟩ := hrel
   have HT := Lib.hid htk
   clear htk
   by_cases hkn : k < n
   ·have hk1 : k < xs.length := by rw [HL.out]; exact hkn
    have hk2 : k < ys.length := by rw [HL2.out]; exact hkn
    have hk0 : (0 : Int) ≤ (k : Int) := by omega
    have hkI : (k : Int) < (n : Int) := by omega
    obtain ⟨g1, o1, rfl, hg1, a1, a2⟩ := RdC.at_ (hr.below hb) hk1
    obtain ⟨g2, o2, rfl, hg2, b1, b2⟩ := RdC.at_ (hr2.below hb) hk2
    obtain ⟨x, hx⟩ : ∃ x, xs[k].1 = x := ⟨_, rfl⟩
    obtain ⟨y, hy⟩ : ∃ y, xs[k].2 = y := ⟨_, rfl⟩
    obtain ⟨p, hp⟩ : ∃ p, ys[k].1 = p := ⟨_, rfl⟩
    obtain ⟨q, hq⟩ : ∃ q, ys[k].2 = q := ⟨_, rfl⟩
    have hxy : xs[k] = (x, y) := Prod.ext hx hy
    have hpq : ys[k] = (p, q) := Prod.ext hp hq
    rw [hx] at a1
    rw [hy] at a2
    rw [hp] at b1
    rw [hq] at b2
    have HAT := Lib.hid (cmpS_at HLL.out hk1 HT.out (x, y) (p, q) hxy hpq)
    have HST : Hid ((x, y) = (p, q) → xs.take (k + 1) = ys.take (k + 1)) := fun e => take_eq_step hk1 hk2 HT.out (by rw [hxy, hpq, e])
    clear hx hy hp hq hxy hpq
    by_cases hsame : x = p ∧ y = q
    ·obtain ⟨rfl, rfl⟩ := hsame
     go_wp2_with fail
     (refine wp_region_below (by kernel_rfl) (by kernel_rfl) ?_; (repeat (first | go_big_quiet_skip | (refine quietV (v := ?_) (by rfl) rfl (fun w' hbw => ?_) ?_; rotate_left; ((try dsimp only at hbw); have hbc := (bcell hbw).1; have hbf := (bcell hbw).2; go_simp; first | done | with_reducible rfl | fail); simp only [sq1, sq2, sq3]))); refine wpQuiet_nil ?_; intro wq hbq)
     go_wp2_with fail
     exact ⟨⟨k + 1, by omega, by go_num, HST.out (by simp), bel_trans hb hbq⟩, by simp [intOf]; omega⟩
    ·have hne : (x == p && y == q) = false := by
      rw [Bool.and_eq_false_iff, beq_eq_false_iff_ne, beq_eq_false_iff_ne]
      by_cases h1 : x = p
      ·exact .inr fun h2 => hsame ⟨h1, h2⟩
      ·exact .inl h1
     cases h3 : befC (x, y) (p, q) with
     | true =>
      have HV := Lib.hid (HAT.out.1 h3)
      have H3 := Lib.hid h3
      clear h3 hsame
      go_wp2_with fail
      (refine wp_region_below (by kernel_rfl) (by kernel_rfl) ?_; (repeat (first | go_big_quiet_skip | (refine quietV (v := ?_) (by rfl) rfl (fun w' hbw => ?_) ?_; rotate_left; ((try dsimp only at hbw); have hbc := (bcell hbw).1; have hbf := (bcell hbw).2; go_simp; first | done | with_reducible rfl | fail); simp only [sq1, sq2, sq3]))); refine wpQuiet_nil ?_; intro wq hbq)
      have c1 := (hbq.cell hg1).trans a1
      have c2 := (hbq.cell hg1).trans a2
      have c3 := (hbq.cell hg2).trans b1
      have c4 := (hbq.cell hg2).trans b2
      have hg3 : g1 < wq.heap.size := Nat.lt_of_lt_of_le hg1 hbq.size
      have hg4 : g2 < wq.heap.size := Nat.lt_of_lt_of_le hg2 hbq.size
      clear a1 a2 b1 b2 hg1 hg2
      go_wp2_with fail
      (refine wp_region_below (by kernel_rfl) (by kernel_rfl) ?_; (repeat (first | go_big_quiet_skip | (refine quietV (v := ?_) (by rfl) rfl (fun w' hbw => ?_) ?_; rotate_left; ((try dsimp only at hbw); have hbc := (bcell hbw).1; have hbf := (bcell hbw).2; go_simp; first | done | with_reducible rfl | exact callsBB (l2Before_s x y p q _) H3.out hbw); simp only [sq1, sq2, sq3]))); refine wpQuiet_nil ?_; intro wz hbz)
      go_wp2_with fail
      go_ret
      exact ⟨by rw [HV.out]; rfl, bel_trans (bel_trans hb hbq) hbz⟩
     | false =>
      have HV : Hid (cmpS xs ys = 1) := HAT.out.2 (by
       cases h4 : befC (p, q) (x, y) with
       | true => rfl
       | false => exact absurd (befC_sto.tot h3 h4) (fun e => hsame (by injection e with e1 e2; exact ⟨e1, e2⟩)))
      have H3 := Lib.hid h3
      clear h3 hsame
      go_wp2_with fail
      (refine wp_region_below (by kernel_rfl) (by kernel_rfl) ?_; (repeat (first | go_big_quiet_skip | (refine quietV (v := ?_) (by rfl) rfl (fun w' hbw => ?_) ?_; rotate_left; ((try dsimp only at hbw); have hbc := (bcell hbw).1; have hbf := (bcell hbw).2; go_simp; first | done | with_reducible rfl | fail); simp only [sq1, sq2, sq3]))); refine wpQuiet_nil ?_; intro wq hbq)
      have c1 := (hbq.cell hg1).trans a1
      have c2 := (hbq.cell hg1).trans a2
      have c3 := (hbq.cell hg2).trans b1
      have c4 := (hbq.cell hg2).trans b2
      have hg3 : g1 < wq.heap.size := Nat.lt_of_lt_of_le hg1 hbq.size
      have hg4 : g2 < wq.heap.size := Nat.lt_of_lt_of_le hg2 hbq.size
      clear a1 a2 b1 b2 hg1 hg2
      go_wp2_with fail
      (refine wp_region_below (by kernel_rfl) (by kernel_rfl) ?_; (repeat (first | go_big_quiet_skip | (refine quietV (v := ?_) (by rfl) rfl (fun w' hbw => ?_) ?_; rotate_left; ((try dsimp only at hbw); have hbc := (bcell hbw).1; have hbf := (bcell hbw).2; go_simp; first | done | with_reducible rfl | exact callsBB (l2Before_s x y p q _) H3.out hbw); simp only [sq1, sq2, sq3]))); refine wpQuiet_nil ?_; intro wz hbz)
      go_wp2_with fail
      go_ret
      exact ⟨by rw [HV.out]; rfl, bel_trans (bel_trans hb hbq) hbz⟩
   ·have hkn2 : k = n := by omega
    have HV : Hid (cmpS xs ys = 0) := by
     show cmpS xs ys = 0
     rw [take_eq_all HLL.out (by rw [HL.out]; omega) HT.out]
     exact cmpS_eq _
    subst hkn2
    have hk1 : ¬ (k : Int) < (k : Int) := by omega
    go_wp2
    go_ret
    exact ⟨by rw [HV.out]; rfl, hb⟩
 ·have HV : Hid (cmpS xs ys = 1) := cmpS_len2 (by omega)
  have h1 : decide ((n : Int) < (m : Int)) = false := by simp; omega
  have h2 : ((n : Int) != (m : Int)) = true := by rw [bne_iff_ne]; omega
  have h3 : (n : Int) > (m : Int) := by omega
  clear hl hl2
  go_enter Tryz.func140, Tryz.ntmps140
  go_wp2
  go_ret
  exact ⟨by rw [HV.out]; rfl, (by (repeat (first | with_reducible exact Below.refl _ _ | with_reducible assumption | with_reducible apply bel_alloc | with_reducible apply bel_drew | with_reducible apply bel_drewN | ((with_reducible refine bel_set ?_ ?_); rotate_left; (simp <;> omega)) | (with_reducible refine bel_trans ?_ (by with_reducible assumption)))))⟩
theorem EqualShapes_i (A B : Option Addr) (n c m d : Nat) (xs ys : List C) (w : World) (hr : Rd w A (vC xs)) (hr2 : Rd w B (vC ys)) (hl : xs.length = n) (hl2 : ys.length = m) (hn : n ≤ 1099511627776) (hm : m ≤ 1099511627776) :
  Calls Tryz.prog 152 #[.slice A n c, .slice B m d] w (Ret w (.bool (decide (xs = ys)))) := by
 by_cases heq : n = m
 ·subst heq
  have HLL : Hid (xs.length = ys.length) := hl.trans hl2.symm
  have HL := Lib.hid hl
  have HL2 := Lib.hid hl2
  have h1 : ((n : Int) != (n : Int)) = false := by simp
  clear hl hl2
  go_enter Tryz.func152, Tryz.ntmps152
  go_wp2
  go_loopw [13] (fun e5 wr => ∃ k : Nat, k ≤ n ∧ e5 = .int .i64 k ∧ xs.take k = ys.take k ∧ Below w.heap.size w wr) (fun e5 _ => n - (intOf e5).toNat)
  case atStart => exact ⟨0, Nat.zero_le _, rfl, rfl, Below.refl _ _⟩
  case round =>
   obtain ⟨k, hk, rfl, htk, hb⟩ := hrel
   have HT := Lib.hid htk
   clear htk
   by_cases hkn : k < n
   ·have hk1 : k < xs.length := by rw [HL.out]; exact hkn
    have hk2 : k < ys.length := by rw [HL2.out]; exact hkn
    have hk0 : (0 : Int) ≤ (k : Int) := by omega
    have hkI : (k : Int) < (n : Int) := by omega
    obtain ⟨g1, o1, rfl, hg1, a1, a2⟩ := RdC.at_ (hr.below hb) hk1
    obtain ⟨g2, o2, rfl, hg2, b1, b2⟩ := RdC.at_ (hr2.below hb) hk2
    obtain ⟨x, hx⟩ : ∃ x, xs[k].1 = x := ⟨_, rfl⟩
    obtain ⟨y, hy⟩ : ∃ y, xs[k].2 = y := ⟨_, rfl⟩
    obtain ⟨p, hp⟩ : ∃ p, ys[k].1 = p := ⟨_, rfl⟩
    obtain ⟨q, hq⟩ : ∃ q, ys[k].2 = q := ⟨_, rfl⟩
    have hxy : xs[k] = (x, y) := Prod.ext hx hy
    have hpq : ys[k] = (p, q) := Prod.ext hp hq
    rw [hx] at a1
    rw [hy] at a2
    rw [hp] at b1
    rw [hq] at b2
    have HST : Hid ((x, y) = (p, q) → xs.take (k + 1) = ys.take (k + 1)) := fun e => take_eq_step hk1 hk2 HT.out (by rw [hxy, hpq, e])
    have HNE : Hid ((x, y) ≠ (p, q) → xs ≠ ys) := fun e h => e (by subst h; rw [← hxy, ← hpq])
    clear hx hy hp hq hxy hpq
    by_cases hsame : x = p ∧ y = q
    ·obtain ⟨rfl, rfl⟩ := hsame
     go_wp2_with fail
     (refine wp_region_below (by kernel_rfl) (by kernel_rfl) ?_; (repeat (first | go_big_quiet_skip | (refine quietV (v := ?_) (by rfl) rfl (fun w' hbw => ?_) ?_; rotate_left; ((try dsimp only at hbw); have hbc := (bcell hbw).1; have hbf := (bcell hbw).2; go_simp; first | done | with_reducible rfl | fail); simp only [sq1, sq2, sq3]))); refine wpQuiet_nil ?_; intro wq hbq)
     go_wp2_with fail
     exact ⟨⟨k + 1, by omega, by go_num, HST.out (by simp), bel_trans hb hbq⟩, by simp [intOf]; omega⟩
    ·have hne : (x == p && y == q) = false := by
      rw [Bool.and_eq_false_iff, beq_eq_false_iff_ne, beq_eq_false_iff_ne]
      by_cases h1 : x = p
      ·exact .inr fun h2 => hsame ⟨h1, h2⟩
      ·exact .inl h1
     have HV : Hid (decide (xs = ys) = false) := decide_eq_false (HNE.out (fun e => hsame (by injection e with e1 e2; exact ⟨e1, e2⟩)))
     clear hsame
     go_wp2_with fail
     (refine wp_region_below (by kernel_rfl) (by kernel_rfl) ?_; (repeat (first | go_big_quiet_skip | (refine quietV (v := ?_) (by rfl) rfl (fun w' hbw => ?_) ?_; rotate_left; ((try dsimp only at hbw); have hbc := (bcell hbw).1; have hbf := (bcell hbw).2; go_simp; first | done | with_reducible rfl | fail); simp only [sq1, sq2, sq3]))); refine wpQuiet_nil ?_; intro wq hbq)
     go_wp2_with fail
     go_ret
     exact ⟨by rw [HV.out]; rfl, bel_trans hb hbq⟩
   ·have hkn2 : k = n := by omega
    have HV : Hid (decide (xs = ys) = true) := decide_eq_true (take_eq_all HLL.out (by rw [HL.out]; omega) HT.out)
    subst hkn2
    have hk1 : ¬ (k : Int) < (k : Int) := by omega
    go_wp2
    go_ret
    exact ⟨by rw [HV.out]; rfl, hb⟩
 ·have HV : Hid (decide (xs = ys) = false) := decide_eq_false (fun e => heq (by rw [← hl, ← hl2, e]))
  have h2 : ((n : Int) != (m : Int)) = true := by rw [bne_iff_ne]; omega
  clear hl hl2
  go_enter Tryz.func152, Tryz.ntmps152
  go_wp2
  go_ret
  exact ⟨by rw [HV.out]; rfl, (by (repeat (first | with_reducible exact Below.refl _ _ | with_reducible assumption | with_reducible apply bel_alloc | with_reducible apply bel_drew | with_reducible apply bel_drewN | ((with_reducible refine bel_set ?_ ?_); rotate_left; (simp <;> omega)) | (with_reducible refine bel_trans ?_ (by with_reducible assumption)))))⟩
theorem EqualShapes_s (A B : Option Addr) (n c m d : Nat) (xs ys : List C) (w : World) (hr : Rd w A (vC xs)) (hr2 : Rd w B (vC ys)) (hl : xs.length = n) (hl2 : ys.length = m) (hn : n ≤ 1099511627776) (hm : m ≤ 1099511627776) :
  Calls Tryz.prog 43 #[.slice A n c, .slice B m d] w (Ret w (.bool (decide (xs = ys)))) := by
 by_cases heq : n = m
 ·subst heq
  have HLL : Hid (xs.length = ys.length) := hl.trans hl2.symm
  have HL := Lib.hid hl
  have HL2 := Lib.hid hl2
  have h1 : ((n : Int) != (n : Int)) = false := by simp
  clear hl hl2
  go_enter Tryz.func43, Tryz.ntmps43
  go_wp2
  go_loopw [5] (fun e5 wr => ∃ k : Nat, k ≤ n ∧ e5 = .int .i64 k ∧ xs.take k = ys.take k ∧ Below w.heap.size w wr) (fun e5 _ => n - (intOf e5).toNat)
  case atStart => exact ⟨0, Nat.zero_le _, rfl, rfl, Below.refl _ _⟩
  case round =>
   obtain ⟨k, hk, rfl, htk, hb⟩ := hrel
   have HT := Lib.hid htk
   clear htk
   by_cases hkn : k < n
   ·have hk1 : k < xs.length := by rw [HL.out]; exact hkn
    have hk2 : k < ys.length := by rw [HL2.out]; exact hkn
    have hk0 : (0 : Int) ≤ (k : Int) := by omega
    have hkI : (k : Int) < (n : Int) := by omega
    obtain ⟨g1, o1, rfl, hg1, a1, a2⟩ := RdC.at_ (hr.below hb) hk1
    obtain ⟨g2, o2, rfl, hg2, b1, b2⟩ := RdC.at_ (hr2.below hb) hk2
    obtain ⟨x, hx⟩ : ∃ x, xs[k].1 = x := ⟨_, rfl⟩
    obtain ⟨y, hy⟩ : ∃ y, xs[k].2 = y := ⟨_, rfl⟩
    obtain ⟨p, hp⟩ : ∃ p, ys[k].1 = p := ⟨_, rfl⟩
    obtain ⟨q, hq⟩ : ∃ q, ys[k].2 = q := ⟨_, rfl⟩
    have hxy : xs[k] = (x, y) := Prod.ext hx hy
    have hpq : ys[k] = (p, q) := Prod.ext hp hq
    rw [hx] at a1
    rw [hy] at a2
    rw [hp] at b1
    rw [hq] at b2
    have HST : Hid ((x, y) = (p, q) → xs.take (k + 1) = ys.take (k + 1)) := fun e => take_eq_step hk1 hk2 HT.out (by rw [hxy, hpq, e])
    have HNE : Hid ((x, y) ≠ (p, q) → xs ≠ ys) := fun e h => e (by subst h; rw [← hxy, ← hpq])
    clear hx hy hp hq hxy hpq
    by_cases hsame : x = p ∧ y = q
    ·obtain ⟨rfl, rfl⟩ := hsame
     go_wp2_with fail
     (refine wp_region_below (by kernel_rfl) (by kernel_rfl) ?_; (repeat (first | go_big_quiet_skip | (refine quietV (v := ?_) (by rfl) rfl (fun w' hbw => ?_) ?_; rotate_left; ((try dsimp only at hbw); have hbc := (bcell hbw).1; have hbf := (bcell hbw).2; go_simp; first | done | with_reducible rfl | fail); simp only [sq1, sq2, sq3]))); refine wpQuiet_nil ?_; intro wq hbq)
     go_wp2_with fail
     exact ⟨⟨k + 1, by omega, by go_num, HST.out (by simp), bel_trans hb hbq⟩, by simp [intOf]; omega⟩
    ·have hne : (x == p && y == q) = false := by
      rw [Bool.and_eq_false_iff, beq_eq_false_iff_ne, beq_eq_false_iff_ne]
      by_cases h1 : x = p
      ·exact .inr fun h2 => hsame ⟨h1, h2⟩
      ·exact .inl h1
     have HV : Hid (decide (xs = ys) = false) := decide_eq_false (HNE.out (fun e => hsame (by injection e with e1 e2; exact ⟨e1, e2⟩)))
     clear hsame
     go_wp2_with fail
     (refine wp_region_below (by kernel_rfl) (by kernel_rfl) ?_; (repeat (first | go_big_quiet_skip | (refine quietV (v := ?_) (by rfl) rfl (fun w' hbw => ?_) ?_; rotate_left; ((try dsimp only at hbw); have hbc := (bcell hbw).1; have hbf := (bcell hbw).2; go_simp; first | done | with_reducible rfl | fail); simp only [sq1, sq2, sq3]))); refine wpQuiet_nil ?_; intro wq hbq)
     go_wp2_with fail
     go_ret
     exact ⟨by rw [HV.out]; rfl, bel_trans hb hbq⟩
   ·have hkn2 : k = n := by omega
    have HV : Hid (decide (xs = ys) = true) := decide_eq_true (take_eq_all HLL.out (by rw [HL.out]; omega) HT.out)
    subst hkn2
    have hk1 : ¬ (k : Int) < (k : Int) := by omega
    go_wp2
    go_ret
    exact ⟨by rw [HV.out]; rfl, hb⟩
 ·have HV : Hid (decide (xs = ys) = false) := decide_eq_false (fun e => heq (by rw [← hl, ← hl2, e]))
  have h2 : ((n : Int) != (m : Int)) = true := by rw [bne_iff_ne]; omega
  clear hl hl2
  go_enter Tryz.func43, Tryz.ntmps43
  go_wp2
  go_ret
  exact ⟨by rw [HV.out]; rfl, (by (repeat (first | with_reducible exact Below.refl _ _ | with_reducible assumption | with_reducible apply bel_alloc | with_reducible apply bel_drew | with_reducible apply bel_drewN | ((with_reducible refine bel_set ?_ ?_); rotate_left; (simp <;> omega)) | (with_reducible refine bel_trans ?_ (by with_reducible assumption)))))⟩
end

section
attribute [local go_sem ↓] Go.wp_at_zero Go.wp_at_succ
theorem world_lt {w : World} {a : Addr} {v : Value} (h : w.cell? a = some v) : a.block < w.heap.size := World.block_lt_of_cell? w a h
theorem putTest (b2 b3 : Nat) (A : Option Addr) (n c : Nat) (hs : List H) (F : List (List C)) (B : Option Addr) (m d : Nat) (f : List C) (i : Nat) (w : World) (hr : RdF w A n hs F) (hf : CRow w (B, m, d) f)
  (c2 : w.cell? ⟨b2, 0, none⟩ = some (.slice A n c)) (c3 : w.cell? ⟨b3, 0, none⟩ = some (.slice B m d)) (hi : i < n) (hl : ∀ x ∈ F, x.length ≤ 1048576) (hm : m ≤ 1048576) (b : Bool) (hv : b = !ltS (F.getD i default) f) :
  Calls Tryz.prog 151 #[.int .i64 (i : Int), .pointer (some ⟨b2, 0, none⟩), .pointer (some ⟨b3, 0, none⟩)] w (Ret w (.bool b)) := by
 obtain ⟨x, t, g, off, hsx, hfx, rfl, hg, c1, hrow⟩ := hr.at_ hi
 have ht : F.getD i default = t := by rw [List.getD_eq_getElem?_getD, hfx]; rfl
 have htl := hl t (List.mem_of_getElem? hfx)
 obtain ⟨C1, m1, k1⟩ := x
 have h1 : t.length = m1 := hrow.1
 have H1 := Lib.hid h1
 have HR := Lib.hid hrow
 have HF := Lib.hid hf
 have HB := Lib.hid (world_lt c2)
 have HB3 := Lib.hid (world_lt c3)
 have hb2 := HB.out
 have hb3 := HB3.out
 have hm1 : m1 ≤ 1048576 := by omega
 have hi0 : (0 : Int) ≤ (i : Int) := by omega
 have hi1 : (i : Int) < (n : Int) := by omega
 dsimp only at c1
 obtain ⟨v, hve⟩ : ∃ v, cmpS t f = v := ⟨_, rfl⟩
 have hb : b = decide (v ≥ 0) := by rw [hv, ht, ← hve, cmpS_neg]
 have HV := Lib.hid hve
 subst hb
 clear hv hve ht htl hsx hfx hrow hf h1 hr hl
 go_enter Tryz.func151, Tryz.ntmps151
 go_wp2_with fail
 (refine wp_region_below (by kernel_rfl) (by kernel_rfl) ?_; (repeat (first | go_big_quiet_skip | (refine quietV (v := ?_) (by rfl) rfl (fun w' hbw => ?_) ?_; rotate_left; ((try dsimp only at hbw); have hbc := (bcell hbw).1; have hbf := (bcell hbw).2; go_simp; first | done | with_reducible rfl | exact callsB (v := .int .i64 v) (by rw [← HV.out]; exact CompareShapes_i C1 B m1 k1 m d t f _ (HR.out.2.1.below hbw) (HF.out.2.1.below hbw) H1.out HF.out.1 (by omega) (by omega)) hbw); simp only [sq1, sq2, sq3]))); refine wpQuiet_nil ?_; intro wq hbq)
 go_wp2_with fail
 go_ret
 exact ⟨rfl, hbq⟩
theorem putSearch (b2 b3 : Nat) (A : Option Addr) (n c : Nat) (hs : List H) (F : List (List C)) (B : Option Addr) (m d : Nat) (f : List C) (w : World) (hr : RdF w A n hs F) (hf : CRow w (B, m, d) f)
  (c2 : w.cell? ⟨b2, 0, none⟩ = some (.slice A n c)) (c3 : w.cell? ⟨b3, 0, none⟩ = some (.slice B m d)) (hl : ∀ x ∈ F, x.length ≤ 1048576) (hm : m ≤ 1048576) (hn : n ≤ 1099511627776) (hi : IncG ltS F) :
  Calls Tryz.prog 150 #[.int .i64 (n : Int), .func (.func 151) #[] #[.pointer (some ⟨b2, 0, none⟩), .pointer (some ⟨b3, 0, none⟩)]] w (Ret w (.int .i64 (F.countP (fun x => ltS x f) : Nat))) := by
 have HL := Lib.hid hl
 have HI := Lib.hid hi
 have HR := Lib.hid hr
 have HF := Lib.hid hf
 have HN := Lib.hid hr.flen
 have HC2 := Lib.hid c2
 have HC3 := Lib.hid c3
 clear hl hi hr hf c2 c3
 go_enter Tryz.func150, Tryz.ntmps150
 go_wp2
 go_loopw [5, 6] (fun e5 e6 wr => ∃ (lo hi : Nat), e5 = .int .i64 lo ∧ e6 = .int .i64 hi ∧ lo ≤ hi ∧ hi ≤ n ∧ (∀ t, t < lo → ltS (F.getD t default) f = true) ∧ (∀ t, hi ≤ t → t < n → ltS (F.getD t default) f = false) ∧ Below w.heap.size w wr) (fun e5 e6 _ => (intOf e6).toNat - (intOf e5).toNat)
 case atStart => exact ⟨0, n, rfl, rfl, Nat.zero_le _, Nat.le_refl _, fun t h => absurd h (by omega), fun t h1 h2 => by omega, Below.refl _ _⟩
 case round =>
  obtain ⟨lo, hi, rfl, rfl, hlh, hin, hlow, hhigh, hb⟩ := hrel
  have HLO := Lib.hid hlow
  have HHI := Lib.hid hhigh
  clear hlow hhigh
  by_cases hlt : lo < hi
  ·have hltI : (lo : Int) < (hi : Int) := by omega
   obtain ⟨k, hk⟩ : ∃ k, (lo + hi) / 2 = k := ⟨_, rfl⟩
   have hkI : ((lo : Int) + (hi : Int)) / 2 = (k : Int) := by rw [← hk]; simp
   have hk1 : lo ≤ k := by omega
   have hk2 : k < hi := by omega
   have HK := Lib.hid hk
   clear hk
   cases ht : ltS (F.getD k default) f with
   | true =>
    have HT := Lib.hid ht
    clear ht
    go_wp2_with fail
    refine (putTest b2 b3 A n c hs F B m d f k _ (HR.out.below hb) (HF.out.below hb) ((hb.cell (world_lt HC2.out)).trans HC2.out) ((hb.cell (world_lt HC3.out)).trans HC3.out) (by omega) HL.out hm false (by rw [HT.out]; rfl)).mono ?_
    rintro e w1 ⟨rfl, hb1⟩
    go_wp2_with fail
    refine ⟨⟨k + 1, hi, by go_num, rfl, by omega, hin, fun t h => ?_, HHI.out, bel_trans hb hb1⟩, by simp [intOf]; omega⟩
    cases he : ltS (F.getD t default) f with
    | true => rfl
    | false =>
     exfalso
     rcases Nat.lt_or_ge t k with h1 | h1
     ·have := incG_get ltS_sto HI.out h1 (by rw [HN.out]; omega)
      rw [ltS_sto.trans this HT.out] at he
      cases he
     ·obtain rfl : t = k := by omega
      rw [HT.out] at he
      cases he
   | false =>
    have HT := Lib.hid ht
    clear ht
    go_wp2_with fail
    refine (putTest b2 b3 A n c hs F B m d f k _ (HR.out.below hb) (HF.out.below hb) ((hb.cell (world_lt HC2.out)).trans HC2.out) ((hb.cell (world_lt HC3.out)).trans HC3.out) (by omega) HL.out hm true (by rw [HT.out]; rfl)).mono ?_
    rintro e w1 ⟨rfl, hb1⟩
    go_wp2_with fail
    refine ⟨⟨lo, k, rfl, rfl, hk1, by omega, HLO.out, fun t h1 h2 => ?_, bel_trans hb hb1⟩, by simp [intOf]; omega⟩
    cases he : ltS (F.getD t default) f with
    | false => rfl
    | true =>
     exfalso
     rcases Nat.lt_or_ge k t with h3 | h3
     ·have := incG_get ltS_sto HI.out h3 (by rw [HN.out]; omega)
      have h4 := ltS_sto.trans this he
      rw [HT.out] at h4
      cases h4
     ·obtain rfl : t = k := by omega
      rw [HT.out] at he
      cases he
  ·obtain rfl : lo = hi := by omega
   have hltI : ¬ (lo : Int) < (lo : Int) := by omega
   have HV : Hid (F.countP (fun x => ltS x f) = lo) := countP_cut (by rw [HN.out]; exact hin)
    (fun t x h1 h2 => by have := HLO.out t h1; rwa [List.getD_eq_getElem?_getD, h2] at this)
    (fun t x h1 h2 => by have := HHI.out t h1 (by have := (List.getElem?_eq_some_iff.1 h2).1; rw [HN.out] at this; exact this); rwa [List.getD_eq_getElem?_getD, h2] at this)
   go_wp2
   go_ret
   exact ⟨by rw [HV.out]; rfl, hb⟩
end

section
attribute [local go_sem ↓] Go.wp_at_zero Go.wp_at_succ
theorem infoF : (Tryz.prog.info? 52).map (fun i => (i.zero, i.size, i.bytes)) = some (some (.slice none 0 0), 1, 24) := by kernel_rfl
section
variable (w : World) {ops : Array Oper} {rest : List Oper} {o : Oper} {a : Act} {Q : Exit → Act → World → Prop}
theorem app_F (hgd : o.guard = none) (s x : Operand) (ho : o.op = .call { callee := .builtin .append, args := #[s, x], argTypes := #[34, 34] })
  (base : Nat) (A : Option Addr) (n c : Nat) (l : List H) (hs : a.eval s = .slice A n c) (hown : w.ownsRow base 52 1 (.slice A n c) n (vS l))
  (A2 : Option Addr) (m c2 : Nat) (l2 : List H) (hx : a.eval x = .slice A2 m c2) (hr : Rd w A2 (vS l2)) (hl : l2.length = m) (hb : n + m ≤ 1099511627776) (hbase : base ≤ w.heap.size)
  (h : ∀ A' c' w', w'.ownsRow base 52 1 (.slice A' (n + m) c') (n + m) (vS (l ++ l2)) → w.grownBy w' (ob A) → (ob A' = ob A ∨ ob A' = some w.heap.size) → wpList Tryz.prog ops Q rest (a.put o.dst (.slice A' (n + m) c')) w') :
  wpList Tryz.prog ops Q (o :: rest) a w := by
 obtain ⟨i0, hi, hz0, hz1, hz2⟩ := info_parts infoF
 refine wpList_app w hgd s x _ ho base _ i0 _ 1 24 Tryz.underlying34 hi hz0 hz1 hz2 rfl (by omega) A n c _ hs hown A2 m c2 _ hx hr (by rw [vS_length, hl]; omega) (vS_one _) (by unfold maxLen; omega) (by omega) hbase ?_
 intro A' c' w' h1
 rw [← vS_append] at h1
 exact h A' c' w' h1
end
def offF (c k : Nat) : Nat := if c = k then 0 else k
theorem run_fromF (w : World) (g m c k : Nat) (hk : k ≤ m) : (Instr.slice 34 (.slice (some ⟨g, 0, none⟩) m c) (some (.int .i64 (k : Int))) none none).run Tryz.prog w = .ok (.slice (some ⟨g, offF c k, none⟩) (m - k) (c - k)) w := by
 have h1 : (0 : Int) ≤ (k : Int) := by omega
 have h2 : (k : Int) ≤ (m : Int) := by omega
 unfold offF
 by_cases hc : c = k
 ·subst hc
  simp [go_sem, h2]
 ·simp [go_sem, h2, hc]
theorem run_shift (w : World) (base g n c k : Nat) (L : List H) (ho : w.ownsRow base 52 1 (.slice (some ⟨g, 0, none⟩) (n + 1) c) (n + 1) (vS L)) (hk : k ≤ n) (ty : TypeId) :
  ∃ w', (Builtin.copy_ #[34, 34] ty #[.slice (some ⟨g, offF c (k + 1), none⟩) (n + 1 - (k + 1)) (c - (k + 1)), .slice (some ⟨g, offF c k, none⟩) (n + 1 - k) (c - k)]).run Tryz.prog w = .ok (goInt ((n - k : Nat))) w' ∧
   w'.ownsRow base 52 1 (.slice (some ⟨g, 0, none⟩) (n + 1) c) (n + 1) (vS (L.take (k + 1) ++ (L.drop k).take (n - k))) ∧ w.grownBy w' (some g) := by
 have hlen : L.length = n + 1 := by have := own_len ho; rw [vS_length] at this; omega
 have hsz : (Tryz.prog.info? 52).map (·.size) = some 1 := by kernel_rfl
 by_cases hkn : k = n
 ·subst hkn
  refine ⟨w, ?_, ?_, World.grownBy.refl _ _⟩
  ·have := run_copy_none (P := Tryz.prog) w 34 34 ty 52 (some ⟨g, offF c (k + 1), none⟩) (some ⟨g, offF c k, none⟩) (k + 1 - (k + 1)) (c - (k + 1)) (k + 1 - k) (c - k) Tryz.underlying34 hsz (by simp)
   rw [this]
   simp
  ·rw [Nat.sub_self, List.take_zero, List.append_nil, List.take_of_length_le (by omega)]
   exact ho
 ·rcases ho.2 with ⟨hv, h0⟩ | ⟨g', cap, cur, hv, hbg, hg, hnc, hcm, hcs, ht⟩
  ·omega
  ·injection hv with hA hn hc
   injection hA with hA
   injection hA with hA1
   subst hA1 hc
   have hoff1 : offF c (k + 1) = k + 1 := by unfold offF; rw [if_neg (by omega)]
   have hoff2 : offF c k = k := by unfold offF; rw [if_neg (by omega)]
   have hcsl : (vS ((L.drop k).take (n - k))).length = n - k := by rw [vS_length, List.length_take, List.length_drop]; omega
   have hsrc : ∀ j v, (vS ((L.drop k).take (n - k)))[j]? = some v → w.cell? ((⟨g, k, none⟩ : Addr).add j) = some v := by
    intro j v hj
    have hjl : j < n - k := by rw [← hcsl]; exact (List.getElem?_eq_some_iff.1 hj).1
    have e : (⟨g, k, none⟩ : Addr).add j = ⟨g, k + j, none⟩ := by unfold Addr.add; split <;> simp_all
    rw [e]
    have hc := ho.cellAt (k + j) (by omega)
    rw [hc, ← hj]
    simp only [vS, List.getElem?_map, List.getElem?_take, List.getElem?_drop, if_pos hjl]
   have hr := run_copy_row (P := Tryz.prog) w 34 34 ty 52 g (k + 1) (n + 1 - (k + 1)) (c - (k + 1)) ⟨g, k, none⟩ (n + 1 - k) (c - k) cur 52 (vS ((L.drop k).take (n - k))) Tryz.underlying34 hsz hg
    (by rw [hcsl]; show n - k = min _ _; omega) hsrc (by rw [hcsl]; omega) (vS_one _)
   rw [hoff1, hoff2, hr, hcsl]
   refine ⟨_, rfl, ⟨?_, .inr ⟨g, c, _, rfl, hbg, setRow_heap w g cur _ _ _ hg, hnc, hcm, ?_, ?_⟩⟩, ⟨rfl, rfl, rfl, by simp [World.setRow], fun q hq hne => setRow_other w g q _ (fun e => hne (by rw [e]))⟩⟩
   ·rw [vS_length, List.length_append, List.length_take, List.length_take, List.length_drop]; omega
   ·simp only [List.size_toArray, List.length_append, List.length_take, List.length_drop, Array.length_toList]
    rw [hcsl]
    omega
   ·have hcurl : cur.toList.length = c * 1 := by rw [Array.length_toList, hcs]
    have hk1 : cur.toList.take (k + 1) = vS (L.take (k + 1)) := by
     have h2 := congrArg (List.take (k + 1)) ht
     rw [List.take_take, Nat.min_eq_left (by omega)] at h2
     rw [h2]
     simp [vS]
    simp only [List.append_assoc]
    rw [hk1, vS_append]
    have hl1 : (vS (L.take (k + 1))).length = k + 1 := by rw [vS_length, List.length_take]; omega
    rw [← List.append_assoc, List.take_append_of_le_length (by rw [List.length_append, hl1, hcsl]; omega)]
    rw [List.take_of_length_le (by rw [List.length_append, hl1, hcsl]; omega)]
theorem wp_copyF {o : Oper} {a : Act} {w w' : World} {K : Act → World → Prop} {Q : Exit → Act → World → Prop} (d s : Operand) (dT sT : TypeId) (ho : o.op = .call { callee := .builtin .copy, args := #[d, s], argTypes := #[dT, sT] })
  {v1 v2 v : Value} (hd : a.eval d = v1) (hs : a.eval s = v2) (hrun : (Builtin.copy_ #[dT, sT] o.type #[v1, v2]).run Tryz.prog w = .ok v w') (hk : K (a.put o.dst v) w') : o.wp Tryz.prog a w K Q := by
 unfold Oper.wp
 simp [execOp, ho, resolve, invoke, builtin, hd, hs, hrun, Result.andThen]
 exact hk
theorem grown_comp2 {a w w' : World} {r r' : Option Nat} (h : a.grownBy w r) (h' : w.grownBy w' r') (hr : ∀ g, r' = some g → r = some g ∨ a.heap.size ≤ g) : a.grownBy w' r :=
 ⟨h'.os.trans h.os, h'.tape.trans h.tape, h'.output.trans h.output, Nat.le_trans h.size h'.size, fun k hk hne => (h'.block k (Nat.lt_of_lt_of_le hk h.size) (fun e => by
  rcases hr k e.symm with h1 | h1
  ·exact hne h1.symm
  ·omega)).trans (h.block k hk hne)⟩
theorem grown_of_below {w w' : World} (h : Below w.heap.size w w') (r : Option Nat) : w.grownBy w' r := ⟨h.os, h.tape, h.output, h.size, fun k hk _ => h.block k hk⟩
theorem grown_setC {a w : World} {r : Option Nat} (h : a.grownBy w r) {p : Addr} (hp : r = some p.block ∨ a.heap.size ≤ p.block) (u : Value) : a.grownBy (w.setCell p u) r :=
 ⟨h.os, h.tape, h.output, by simpa [World.setCell] using h.size, fun k hk hne => by
  rw [Below.heap_setCell w p u k (by
   rintro rfl
   rcases hp with h1 | h1
   ·exact hne h1.symm
   ·omega)]
  exact h.block k hk hne⟩
theorem ins_set {α : Type} (hs : List α) (z x : α) (n k : Nat) (hn : hs.length = n) (hk : k ≤ n) : (((hs ++ [z]).take (k + 1)) ++ ((hs ++ [z]).drop k).take (n - k)).set k x = hs.take k ++ [x] ++ hs.drop k := by
 have h1 : ((hs ++ [z]).drop k).take (n - k) = hs.drop k := by
  rw [List.drop_append_of_le_length (by omega), List.take_append_of_le_length (by rw [List.length_drop]; omega), List.take_of_length_le (by rw [List.length_drop]; omega)]
 have hkl : k < (hs ++ [z]).length := by simp; omega
 rw [h1, List.take_succ_eq_append_getElem hkl]
 have h2 : (hs ++ [z]).take k = hs.take k := List.take_append_of_le_length (by omega)
 rw [h2, List.append_assoc, List.set_append_right _ _ (by rw [List.length_take]; omega), List.length_take, Nat.min_eq_left (by omega), Nat.sub_self]
 simp
theorem ins_rows {α β : Type} {hs : List α} {F : List β} {k : Nat} (hl : hs.length = F.length) (hk : k ≤ F.length) {x0 : α} {f : β} (i : Nat) (x : α) (y : β) (h1 : (hs.take k ++ [x0] ++ hs.drop k)[i]? = some x) (h2 : (F.take k ++ [f] ++ F.drop k)[i]? = some y) :
  (∃ j : Nat, hs[j]? = some x ∧ F[j]? = some y) ∨ (x = x0 ∧ y = f) := by
 have e1 : (hs.take k).length = k := by rw [List.length_take]; omega
 have e2 : (F.take k).length = k := by rw [List.length_take]; omega
 rw [List.append_assoc] at h1 h2
 rcases Nat.lt_trichotomy i k with h | h | h
 ·rw [List.getElem?_append_left (by omega), List.getElem?_take_of_lt h] at h1 h2
  exact .inl ⟨i, h1, h2⟩
 ·subst h
  rw [List.getElem?_append_right (by omega), e1, Nat.sub_self] at h1
  rw [List.getElem?_append_right (by omega), e2, Nat.sub_self] at h2
  simp at h1 h2
  exact .inr ⟨h1.symm, h2.symm⟩
 ·obtain ⟨j, rfl⟩ : ∃ j, i = k + 1 + j := ⟨i - (k + 1), by omega⟩
  rw [List.getElem?_append_right (by omega), e1, show k + 1 + j - k = j + 1 from by omega] at h1
  rw [List.getElem?_append_right (by omega), e2, show k + 1 + j - k = j + 1 from by omega] at h2
  simp only [List.singleton_append, List.getElem?_cons_succ, List.getElem?_drop] at h1 h2
  exact .inl ⟨_, h1, h2⟩
def PutP (base : Nat) (w : World) (A : Option Addr) (F : List (List C)) (e : Ending) (w' : World) : Prop :=
 ∃ A' n' c' hs', e = .returned (.slice A' n' c') ∧ OwnF base w' A' n' c' hs' F ∧ w.grownBy w' (ob A) ∧ ∀ g, ob A' = some g → ob A = some g ∨ w.heap.size ≤ g
theorem putB_same {F : List (List C)} {f : List C} {k : Nat} (hk : F.countP (fun x => ltS x f) = k) (h1 : k < F.length) (h2 : F.getD k default = f) : putB ltS F f = F := by unfold putB; rw [hk, if_pos ⟨h1, h2⟩]
theorem putB_new {F : List (List C)} {f : List C} {k : Nat} (hk : F.countP (fun x => ltS x f) = k) (h1 : ¬ (k < F.length ∧ F.getD k default = f)) : putB ltS F f = F.take k ++ [f] ++ F.drop k := by unfold putB; rw [hk, if_neg h1]
theorem putShape_i (A : Option Addr) (n c : Nat) (hs : List H) (F : List (List C)) (B : Option Addr) (m d : Nat) (f : List C) (base : Nat) (w : World) (ho : OwnF base w A n c hs F) (hf : CRow w (B, m, d) f) (hi : IncG ltS F)
  (hl : ∀ x ∈ F, x.length ≤ 1048576) (hm : m ≤ 1048576) (hn : n ≤ 1073741824) (hbs : base ≤ w.heap.size) :
  Calls Tryz.prog 103 #[.slice A n c, .slice B m d] w (PutP base w A (putB ltS F f)) := by
 obtain ⟨k, hk⟩ : ∃ k, F.countP (fun x => ltS x f) = k := ⟨_, rfl⟩
 have hkn : k ≤ n := by rw [← hk, ← ho.flen]; exact List.countP_le_length
 have hAlt := own_lt ho.own
 have hB2 := (Blk.new w 34 #[.slice A n c]).alloc (.cells #[.slice B m d] 52)
 have hB3 : Blk ((w.alloc (.cells #[.slice A n c] 34)).alloc (.cells #[.slice B m d] 52)) (w.heap.size + 1) 52 #[.slice B m d] := by simpa using Blk.new (w.alloc (.cells #[.slice A n c] 34)) 52 #[.slice B m d]
 have hb0 : Below w.heap.size w ((w.alloc (.cells #[.slice A n c] 34)).alloc (.cells #[.slice B m d] 52)) := (by (repeat (first | with_reducible exact Below.refl _ _ | with_reducible assumption | with_reducible apply bel_alloc | with_reducible apply bel_drew | with_reducible apply bel_drewN | ((with_reducible refine bel_set ?_ ?_); rotate_left; (simp <;> omega)) | (with_reducible refine bel_trans ?_ (by with_reducible assumption)))))
 obtain ⟨W0, hW0⟩ : ∃ W0, (w.alloc (.cells #[.slice A n c] 34)).alloc (.cells #[.slice B m d] 52) = W0 := ⟨_, rfl⟩
 rw [hW0] at hB2 hB3 hb0
 have HS := putSearch w.heap.size (w.heap.size + 1) A n c hs F B m d f W0 (ho.rd.below hb0) (hf.below hb0) (by simpa using hB2.cell 0) (by simpa using hB3.cell 0) hl hm (by omega) hi
 rw [hk] at HS
 have HSE := Lib.hid HS
 have HO := Lib.hid ho
 have HF := Lib.hid hf
 have HK := Lib.hid hk
 have HL := Lib.hid hl
 have HB2 := Lib.hid hB2
 have HB3 := Lib.hid hB3
 have HW := Lib.hid hW0
 have HFL := Lib.hid ho.flen
 have HA := Lib.hid hAlt
 have hz0 := hb0.size
 clear HS ho hf hk hl hB2 hB3 hW0 hAlt hi
 go_enter Tryz.func103, Tryz.ntmps103
 go_wp2_with fail
 rw [HW.out]
 refine HSE.out.mono ?_
 rintro e w1 ⟨rfl, hb1⟩
 have hb01 := bel_trans hb0 hb1
 have HX2 := Lib.hid (HB2.out.below hb1)
 have HX3 := Lib.hid (HB3.out.below hb1)
 have c2 : w1.cell? ⟨w.heap.size, 0, none⟩ = some (.slice A n c) := by simpa using HX2.out.cell 0
 have c3 : w1.cell? ⟨w.heap.size + 1, 0, none⟩ = some (.slice B m d) := by simpa using HX3.out.cell 0
 have l2 := HX2.out.lt
 have l3 := HX3.out.lt
 have HO1 := Lib.hid (HO.out.below hb01)
 have HF1 := Lib.hid (HF.out.below hb01)
 by_cases hkk : k < n
 ·obtain ⟨x, t, g, off, hsx, hfx, hAg, hg, d1, hrow⟩ := HO1.out.rd.at_ hkk
  have ht : F.getD k default = t := by rw [List.getD_eq_getElem?_getD, hfx]; rfl
  have htl := HL.out t (List.mem_of_getElem? hfx)
  obtain ⟨C1, m1, k1⟩ := x
  have h1 : t.length = m1 := hrow.1
  have H1 := Lib.hid h1
  have HR := Lib.hid hrow
  have hm1 : m1 ≤ 1048576 := by omega
  have hk0 : (0 : Int) ≤ (k : Int) := by omega
  have hkI : (k : Int) < (n : Int) := by omega
  dsimp only at d1
  by_cases htf : t = f
  ·have HV := Lib.hid (putB_same HK.out (by rw [HFL.out]; exact hkk) (ht.trans htf))
   have HD : Hid (decide (t = f) = true) := decide_eq_true htf
   subst hAg
   clear ht htf hsx hfx hrow h1 htl
   go_wp2_with fail
   (refine wp_region_below (by kernel_rfl) (by kernel_rfl) ?_; (repeat (first | go_big_quiet_skip | (refine quietV (v := ?_) (by rfl) rfl (fun w' hbw => ?_) ?_; rotate_left; ((try dsimp only at hbw); have hbc := (bcell hbw).1; have hbf := (bcell hbw).2; go_simp; first | done | with_reducible rfl | exact callsBB (EqualShapes_i C1 B m1 k1 m d t f _ (HR.out.2.1.below hbw) (HF1.out.2.1.below hbw) H1.out HF1.out.1 (by omega) (by omega)) HD.out hbw); simp only [sq1, sq2, sq3]))); refine wpQuiet_nil ?_; intro wq hbq)
   have c2q : wq.cell? ⟨w.heap.size, 0, none⟩ = some (.slice (some ⟨g, off, none⟩) n c) := by simpa using (HX2.out.below hbq).cell 0
   have l2q := (HX2.out.below hbq).lt
   clear c2 c3 l2 l3
   go_wp2_with fail
   go_ret
   exact ⟨_, n, c, hs, rfl, by rw [HV.out]; exact HO1.out.below hbq, grown_of_below (bel_trans hb01 hbq) _, fun g e => .inl e⟩
  ·have HV := Lib.hid (putB_new HK.out (fun h => htf (ht.symm.trans h.2)))
   have HD : Hid (decide (t = f) = false) := decide_eq_false htf
   have HAG := Lib.hid hAg
   rw [hAg] at c2
   have hkd : decide (k < n) = true := by simp [hkk]
   clear ht htf hsx hfx hrow h1 htl hAg
   go_wp2_with fail
   (refine wp_region_below (by kernel_rfl) (by kernel_rfl) ?_; (repeat (first | go_big_quiet_skip | (refine quietV (v := ?_) (by rfl) rfl (fun w' hbw => ?_) ?_; rotate_left; ((try dsimp only at hbw); have hbc := (bcell hbw).1; have hbf := (bcell hbw).2; go_simp; first | done | with_reducible rfl | exact callsBB (EqualShapes_i C1 B m1 k1 m d t f _ (HR.out.2.1.below hbw) (HF1.out.2.1.below hbw) H1.out HF1.out.1 (by omega) (by omega)) HD.out hbw); simp only [sq1, sq2, sq3]))); refine wpQuiet_nil ?_; intro wq hbq)
   clear d1 hkd
   rw [← HAG.out] at c2 ⊢
   have hb0q := bel_trans hb01 hbq
   have hz1 := hb0q.size
   have HX2q := Lib.hid (HX2.out.below hbq)
   have HX3q := Lib.hid (HX3.out.below hbq)
   have HOq := Lib.hid (HO1.out.below hbq)
   have c2q : wq.cell? ⟨w.heap.size, 0, none⟩ = some (.slice A n c) := by simpa using HX2q.out.cell 0
   have z2q := HX2q.out.frozen 0
   have l2q := HX2q.out.lt
   clear c2 c3 l2 l3
   go_wp2_with (at_builtin; go_must (refine app_F _ rfl _ _ rfl base _ _ _ hs rfl (HOq.out.own.alloc _) _ _ _ [(none, 0, 0)] rfl (rd_newS _ _ _) rfl (by omega) (by simp; omega) ?_); intro A3 c5 w3 ho3 hg3 hat3; have HO3 := Lib.hid ho3; have HG3 := Lib.hid hg3; have HAT := Lib.hid hat3; have hX3 := (HX2q.out.alloc (.cells #[.slice none 0 0] 52)).grown hg3 (fun e => by have := (HA.out _ e.symm).2; omega); have e2 : w3.cell? ⟨w.heap.size, 0, none⟩ = some (.slice A n c) := (by simpa using hX3.cell 0); have f2 := hX3.frozen 0; have l4 := hX3.lt; have HX4 := Lib.hid (hX3.set_ 0 (.slice A3 (n + 1) c5)); have HY4 := Lib.hid (((HX3q.out.alloc (.cells #[.slice none 0 0] 52)).grown hg3 (fun e => by have := (HA.out _ e.symm).2; omega)).far (p := ⟨w.heap.size, 0, none⟩) (by simp) (.slice A3 (n + 1) c5)); clear hX3 ho3 hg3 hat3)
   obtain ⟨g3, hA3, hbg3, hg3l⟩ := own_at HO3.out (by omega)
   subst hA3
   have hg3n : g3 ≠ w.heap.size ∧ g3 ≠ w.heap.size + 1 := by
    rcases HAT.out with h | h
    ·have := (HA.out g3 h.symm).2; omega
    ·simp only [ob, Option.map_some, Option.some.injEq, World.size_alloc] at h; omega
   obtain ⟨hg3n, hg3m⟩ := hg3n
   have HO4 := Lib.hid (own_set HO3.out (p := ⟨w.heap.size, 0, none⟩) (fun g e => by simp only [ob, Option.map_some, Option.some.injEq] at e; subst e; exact hg3n) (.slice (some ⟨g3, 0, none⟩) (n + 1) c5))
   have HG4 : Hid (w.grownBy (w3.setCell ⟨w.heap.size, 0, none⟩ (.slice (some ⟨g3, 0, none⟩) (n + 1) c5)) (ob A)) :=
    grown_setC (grown_comp2 (grown_of_below (bel_alloc hb0q _) (ob A)) HG3.out (fun g h => .inl h)) (.inr (Nat.le_refl _)) _
   have HR4 : Hid (∀ x t, CRow wq x t → CRow (w3.setCell ⟨w.heap.size, 0, none⟩ (.slice (some ⟨g3, 0, none⟩) (n + 1) c5)) x t) := fun x t h =>
    ((h.below (bel_alloc (Below.refl _ _) _)).grown HG3.out (fun g e r => (h.apart HOq.out.own) g e r)).grown (grown_set (World.grownBy.refl _ (some w.heap.size)) rfl _) (fun g e r => by
     injection r with r
     obtain ⟨cur, z, h1⟩ := h.2.2.1 g e
     have h2 := HX2q.out
     unfold Blk at h2
     rw [r, h1] at h2
     injection h2 with h2
     injection h2 with _ h3
     exact absurd h3 (by decide))
   obtain ⟨w4, hw4⟩ : ∃ w4, w3.setCell ⟨w.heap.size, 0, none⟩ (.slice (some ⟨g3, 0, none⟩) (n + 1) c5) = w4 := ⟨_, rfl⟩
   rw [hw4] at HX4 HY4 HO4 HG4 HR4 ⊢
   have d2 : w4.cell? ⟨w.heap.size, 0, none⟩ = some (.slice (some ⟨g3, 0, none⟩) (n + 1) c5) := by simpa using HX4.out.cell 0
   have l6 := HX4.out.lt
   have hk0 : (0 : Int) ≤ (k : Int) := by omega
   obtain ⟨k1, hk1⟩ : ∃ k1 : Nat, k + 1 = k1 := ⟨_, rfl⟩
   have hk1I : (k : Int) + 1 = (k1 : Int) := by omega
   have hk1w : IntKind.i64.wrap (k1 : Int) = (k1 : Int) := Go.IntWalk.i64_in _ (by omega)
   have hs1 : ∀ w', (Instr.slice 34 (.slice (some ⟨g3, 0, none⟩) (n + 1) c5) (some (.int .i64 (k1 : Int))) none none).run Tryz.prog w' = .ok (.slice (some ⟨g3, offF c5 k1, none⟩) (n + 1 - k1) (c5 - k1)) w' := fun w' => run_fromF w' g3 (n + 1) c5 k1 (by omega)
   have hs2 : ∀ w', (Instr.slice 34 (.slice (some ⟨g3, 0, none⟩) (n + 1) c5) (some (.int .i64 (k : Int))) none none).run Tryz.prog w' = .ok (.slice (some ⟨g3, offF c5 k, none⟩) (n + 1 - k) (c5 - k)) w' := fun w' => run_fromF w' g3 (n + 1) c5 k (by omega)
   have HK1 := Lib.hid hk1
   clear hk1 hw4 e2 f2 l4
   go_wp2_with fail
   (refine wp_region_tailN (C := Gr w4 (some ⟨g3, 0, none⟩)) 7 (by kernel_rfl) (by kernel_rfl) (Gr.drawn _ _) (fun _ _ h k => h.ext k) ?_; simp only [List.take_succ_cons, List.take_zero, List.drop_succ_cons, List.drop_zero]; (repeat (first | (refine headSkip (by rfl) rfl ?_; simp only [sq1, sq2, sq3]) | (refine headV (v := ?_) (by rfl) rfl (fun w' hcw => ?_) ?_; rotate_left; ((try dsimp only at hcw); have hbc := hcw.cells; go_simp; first | done | with_reducible rfl | (have hcc := hcw.cell l6 (by simp [ob]; exact fun e => hg3n e.symm) 0; go_simp; first | done | with_reducible rfl)); simp only [sq1, sq2, sq3]))); unfold wpHead)
   refine tailK (by rfl) (fun u5 hc5 he5 K hK => ?_)
   obtain ⟨w5, hrun, ho5, hg5⟩ := run_shift u5 base g3 n c5 k (hs ++ [(none, 0, 0)]) (own_keep HO4.out he5) hkn 3
   rw [HK1.out] at hrun
   refine wp_copyF _ _ _ _ rfl rfl rfl hrun ?_
   refine hK _ _ (Gr.trans hc5 hg5) ?_
   clear hK K hrun
   simp only [Act.put, List.setIfInBounds_toArray, List.set_cons_zero, List.set_cons_succ]
   (refine fun w6 hc6 he6 => NoPanic.normal ?_)
   have HO6 := Lib.hid (own_keep ho5 he6)
   have HG6 : Hid (w4.grownBy w6 (some g3)) := hc6
   have HX6 := Lib.hid (HX4.out.grown HG6.out (fun e => by injection e with e; exact hg3n e.symm))
   have HY6 := Lib.hid (HY4.out.grown HG6.out (fun e => by injection e with e; exact hg3m e.symm))
   have b2 : w6.cell? ⟨w.heap.size, 0, none⟩ = some (.slice (some ⟨g3, 0, none⟩) (n + 1) c5) := by simpa using HX6.out.cell 0
   have b3 : w6.cell? ⟨w.heap.size + 1, 0, none⟩ = some (.slice B m d) := by simpa using HY6.out.cell 0
   have l7 := HX6.out.lt
   have l8 := HY6.out.lt
   have hck := HO6.out.cellAt k (by omega)
   have hkl : k < (vS (List.take (k + 1) (hs ++ [(none, 0, 0)]) ++ List.take (n - k) (List.drop k (hs ++ [(none, 0, 0)])))).length := by
    have := own_len HO6.out; omega
   rw [List.getElem?_eq_getElem hkl] at hck
   generalize (vS (List.take (k + 1) (hs ++ [(none, 0, 0)]) ++ List.take (n - k) (List.drop k (hs ++ [(none, 0, 0)]))))[k] = z at hck
   have hfk := HO6.out.frozenAt k
   have hg6l := own_lt HO6.out g3 rfl
   have hst := (HO6.out.stored k (.slice B m d)).1
   rw [show (vS (List.take (k + 1) (hs ++ [(none, 0, 0)]) ++ List.take (n - k) (List.drop k (hs ++ [(none, 0, 0)])))).set k (.slice B m d) = vS (hs.take k ++ [(B, m, d)] ++ hs.drop k) from by rw [← ins_set hs (none, 0, 0) (B, m, d) n k HO.out.hlen hkn]; simp [vS, List.map_set, hd]] at hst
   have HST := Lib.hid hst
   obtain ⟨hg6a, hg6b⟩ := hg6l
   have hkI2 : (k : Int) < (n : Int) + 1 := by omega
   have HRW : Hid (∀ x t, CRow wq x t → CRow (w6.setCell ⟨g3, k, none⟩ (.slice B m d)) x t) := fun x t h => by
    have h4 := HR4.out x t h
    have ne := h4.apart HO4.out
    exact (h4.grown HG6.out (fun g e r => ne g e r)).grown (grown_set (World.grownBy.refl _ (some g3)) rfl _) (fun g e r => ne g e r)
   have HGW : Hid (w.grownBy (w6.setCell ⟨g3, k, none⟩ (.slice B m d)) (ob A)) := by
    have hh : ob A = some g3 ∨ w.heap.size ≤ g3 := by
     rcases HAT.out with h | h
     ·exact .inl h.symm
     ·simp only [ob, Option.map_some, Option.some.injEq, World.size_alloc] at h; right; omega
    exact grown_setC (grown_comp2 HG4.out HG6.out (fun g h => by injection h with h; subst h; exact hh)) hh _
   clear hst hc5 he5 ho5 hg5 hc6 he6 d2 l6 hs1 hs2
   go_wp2_with fail
   go_ret
   refine ⟨some ⟨g3, 0, none⟩, n + 1, c5, hs.take k ++ [(B, m, d)] ++ hs.drop k, rfl, ⟨HST.out, ?_, ?_⟩, HGW.out, ?_⟩
   ·rw [HV.out]; simp only [List.length_append, List.length_take, List.length_drop, List.length_cons, List.length_nil, HFL.out]; omega
   ·intro i x t h1 h2
    rw [HV.out] at h2
    rcases ins_rows (by rw [HO.out.hlen, HFL.out]) (by rw [HFL.out]; exact hkn) i x t h1 h2 with ⟨j, h3, h4⟩ | ⟨h3, h4⟩
    ·exact HRW.out x t (HOq.out.row j x t h3 h4)
    ·subst h3 h4
     exact HRW.out _ _ (HF1.out.below hbq)
   ·intro g e
    rcases HAT.out with h | h
    ·exact .inl (h ▸ e)
    ·rw [h] at e
     simp only [World.size_alloc, Option.some.injEq] at e
     right; omega
 ·have HV := Lib.hid (putB_new HK.out (fun h => hkk (by have := h.1; rwa [HFL.out] at this)))
  have hkd : decide (k < n) = false := by simp; omega
  have hkI : ¬ (k : Int) < (n : Int) := by omega
  go_wp2_with fail
  (refine wp_region_below (by kernel_rfl) (by kernel_rfl) ?_; (repeat (first | go_big_quiet_skip | (refine quietV (v := ?_) (by rfl) rfl (fun w' hbw => ?_) ?_; rotate_left; ((try dsimp only at hbw); have hbc := (bcell hbw).1; have hbf := (bcell hbw).2; go_simp; first | done | with_reducible rfl | fail); simp only [sq1, sq2, sq3]))); refine wpQuiet_nil ?_; intro wq hbq)
  clear hkd hkI hkk
  have hb0q := bel_trans hb01 hbq
  have hz1 := hb0q.size
  have HX2q := Lib.hid (HX2.out.below hbq)
  have HX3q := Lib.hid (HX3.out.below hbq)
  have HOq := Lib.hid (HO1.out.below hbq)
  have c2q : wq.cell? ⟨w.heap.size, 0, none⟩ = some (.slice A n c) := by simpa using HX2q.out.cell 0
  have z2q := HX2q.out.frozen 0
  have l2q := HX2q.out.lt
  clear c2 c3 l2 l3
  go_wp2_with (at_builtin; go_must (refine app_F _ rfl _ _ rfl base _ _ _ hs rfl (HOq.out.own.alloc _) _ _ _ [(none, 0, 0)] rfl (rd_newS _ _ _) rfl (by omega) (by simp; omega) ?_); intro A3 c5 w3 ho3 hg3 hat3; have HO3 := Lib.hid ho3; have HG3 := Lib.hid hg3; have HAT := Lib.hid hat3; have hX3 := (HX2q.out.alloc (.cells #[.slice none 0 0] 52)).grown hg3 (fun e => by have := (HA.out _ e.symm).2; omega); have e2 : w3.cell? ⟨w.heap.size, 0, none⟩ = some (.slice A n c) := (by simpa using hX3.cell 0); have f2 := hX3.frozen 0; have l4 := hX3.lt; have HX4 := Lib.hid (hX3.set_ 0 (.slice A3 (n + 1) c5)); have HY4 := Lib.hid (((HX3q.out.alloc (.cells #[.slice none 0 0] 52)).grown hg3 (fun e => by have := (HA.out _ e.symm).2; omega)).far (p := ⟨w.heap.size, 0, none⟩) (by simp) (.slice A3 (n + 1) c5)); clear hX3 ho3 hg3 hat3)
  obtain ⟨g3, hA3, hbg3, hg3l⟩ := own_at HO3.out (by omega)
  subst hA3
  have hg3n : g3 ≠ w.heap.size ∧ g3 ≠ w.heap.size + 1 := by
   rcases HAT.out with h | h
   ·have := (HA.out g3 h.symm).2; omega
   ·simp only [ob, Option.map_some, Option.some.injEq, World.size_alloc] at h; omega
  obtain ⟨hg3n, hg3m⟩ := hg3n
  have HO4 := Lib.hid (own_set HO3.out (p := ⟨w.heap.size, 0, none⟩) (fun g e => by simp only [ob, Option.map_some, Option.some.injEq] at e; subst e; exact hg3n) (.slice (some ⟨g3, 0, none⟩) (n + 1) c5))
  have HG4 : Hid (w.grownBy (w3.setCell ⟨w.heap.size, 0, none⟩ (.slice (some ⟨g3, 0, none⟩) (n + 1) c5)) (ob A)) :=
   grown_setC (grown_comp2 (grown_of_below (bel_alloc hb0q _) (ob A)) HG3.out (fun g h => .inl h)) (.inr (Nat.le_refl _)) _
  have HR4 : Hid (∀ x t, CRow wq x t → CRow (w3.setCell ⟨w.heap.size, 0, none⟩ (.slice (some ⟨g3, 0, none⟩) (n + 1) c5)) x t) := fun x t h =>
   ((h.below (bel_alloc (Below.refl _ _) _)).grown HG3.out (fun g e r => (h.apart HOq.out.own) g e r)).grown (grown_set (World.grownBy.refl _ (some w.heap.size)) rfl _) (fun g e r => by
    injection r with r
    obtain ⟨cur, z, h1⟩ := h.2.2.1 g e
    have h2 := HX2q.out
    unfold Blk at h2
    rw [r, h1] at h2
    injection h2 with h2
    injection h2 with _ h3
    exact absurd h3 (by decide))
  obtain ⟨w4, hw4⟩ : ∃ w4, w3.setCell ⟨w.heap.size, 0, none⟩ (.slice (some ⟨g3, 0, none⟩) (n + 1) c5) = w4 := ⟨_, rfl⟩
  rw [hw4] at HX4 HY4 HO4 HG4 HR4 ⊢
  have d2 : w4.cell? ⟨w.heap.size, 0, none⟩ = some (.slice (some ⟨g3, 0, none⟩) (n + 1) c5) := by simpa using HX4.out.cell 0
  have l6 := HX4.out.lt
  have hk0 : (0 : Int) ≤ (k : Int) := by omega
  obtain ⟨k1, hk1⟩ : ∃ k1 : Nat, k + 1 = k1 := ⟨_, rfl⟩
  have hk1I : (k : Int) + 1 = (k1 : Int) := by omega
  have hk1w : IntKind.i64.wrap (k1 : Int) = (k1 : Int) := Go.IntWalk.i64_in _ (by omega)
  have hs1 : ∀ w', (Instr.slice 34 (.slice (some ⟨g3, 0, none⟩) (n + 1) c5) (some (.int .i64 (k1 : Int))) none none).run Tryz.prog w' = .ok (.slice (some ⟨g3, offF c5 k1, none⟩) (n + 1 - k1) (c5 - k1)) w' := fun w' => run_fromF w' g3 (n + 1) c5 k1 (by omega)
  have hs2 : ∀ w', (Instr.slice 34 (.slice (some ⟨g3, 0, none⟩) (n + 1) c5) (some (.int .i64 (k : Int))) none none).run Tryz.prog w' = .ok (.slice (some ⟨g3, offF c5 k, none⟩) (n + 1 - k) (c5 - k)) w' := fun w' => run_fromF w' g3 (n + 1) c5 k (by omega)
  have HK1 := Lib.hid hk1
  clear hk1 hw4 e2 f2 l4
  go_wp2_with fail
  (refine wp_region_tailN (C := Gr w4 (some ⟨g3, 0, none⟩)) 7 (by kernel_rfl) (by kernel_rfl) (Gr.drawn _ _) (fun _ _ h k => h.ext k) ?_; simp only [List.take_succ_cons, List.take_zero, List.drop_succ_cons, List.drop_zero]; (repeat (first | (refine headSkip (by rfl) rfl ?_; simp only [sq1, sq2, sq3]) | (refine headV (v := ?_) (by rfl) rfl (fun w' hcw => ?_) ?_; rotate_left; ((try dsimp only at hcw); have hbc := hcw.cells; go_simp; first | done | with_reducible rfl | (have hcc := hcw.cell l6 (by simp [ob]; exact fun e => hg3n e.symm) 0; go_simp; first | done | with_reducible rfl)); simp only [sq1, sq2, sq3]))); unfold wpHead)
  refine tailK (by rfl) (fun u5 hc5 he5 K hK => ?_)
  obtain ⟨w5, hrun, ho5, hg5⟩ := run_shift u5 base g3 n c5 k (hs ++ [(none, 0, 0)]) (own_keep HO4.out he5) hkn 3
  rw [HK1.out] at hrun
  refine wp_copyF _ _ _ _ rfl rfl rfl hrun ?_
  refine hK _ _ (Gr.trans hc5 hg5) ?_
  clear hK K hrun
  simp only [Act.put, List.setIfInBounds_toArray, List.set_cons_zero, List.set_cons_succ]
  (refine fun w6 hc6 he6 => NoPanic.normal ?_)
  have HO6 := Lib.hid (own_keep ho5 he6)
  have HG6 : Hid (w4.grownBy w6 (some g3)) := hc6
  have HX6 := Lib.hid (HX4.out.grown HG6.out (fun e => by injection e with e; exact hg3n e.symm))
  have HY6 := Lib.hid (HY4.out.grown HG6.out (fun e => by injection e with e; exact hg3m e.symm))
  have b2 : w6.cell? ⟨w.heap.size, 0, none⟩ = some (.slice (some ⟨g3, 0, none⟩) (n + 1) c5) := by simpa using HX6.out.cell 0
  have b3 : w6.cell? ⟨w.heap.size + 1, 0, none⟩ = some (.slice B m d) := by simpa using HY6.out.cell 0
  have l7 := HX6.out.lt
  have l8 := HY6.out.lt
  have hck := HO6.out.cellAt k (by omega)
  have hkl : k < (vS (List.take (k + 1) (hs ++ [(none, 0, 0)]) ++ List.take (n - k) (List.drop k (hs ++ [(none, 0, 0)])))).length := by
   have := own_len HO6.out; omega
  rw [List.getElem?_eq_getElem hkl] at hck
  generalize (vS (List.take (k + 1) (hs ++ [(none, 0, 0)]) ++ List.take (n - k) (List.drop k (hs ++ [(none, 0, 0)]))))[k] = z at hck
  have hfk := HO6.out.frozenAt k
  have hg6l := own_lt HO6.out g3 rfl
  have hst := (HO6.out.stored k (.slice B m d)).1
  rw [show (vS (List.take (k + 1) (hs ++ [(none, 0, 0)]) ++ List.take (n - k) (List.drop k (hs ++ [(none, 0, 0)])))).set k (.slice B m d) = vS (hs.take k ++ [(B, m, d)] ++ hs.drop k) from by rw [← ins_set hs (none, 0, 0) (B, m, d) n k HO.out.hlen hkn]; simp [vS, List.map_set, hd]] at hst
  have HST := Lib.hid hst
  obtain ⟨hg6a, hg6b⟩ := hg6l
  have hkI2 : (k : Int) < (n : Int) + 1 := by omega
  have HRW : Hid (∀ x t, CRow wq x t → CRow (w6.setCell ⟨g3, k, none⟩ (.slice B m d)) x t) := fun x t h => by
   have h4 := HR4.out x t h
   have ne := h4.apart HO4.out
   exact (h4.grown HG6.out (fun g e r => ne g e r)).grown (grown_set (World.grownBy.refl _ (some g3)) rfl _) (fun g e r => ne g e r)
  have HGW : Hid (w.grownBy (w6.setCell ⟨g3, k, none⟩ (.slice B m d)) (ob A)) := by
   have hh : ob A = some g3 ∨ w.heap.size ≤ g3 := by
    rcases HAT.out with h | h
    ·exact .inl h.symm
    ·simp only [ob, Option.map_some, Option.some.injEq, World.size_alloc] at h; right; omega
   exact grown_setC (grown_comp2 HG4.out HG6.out (fun g h => by injection h with h; subst h; exact hh)) hh _
  clear hst hc5 he5 ho5 hg5 hc6 he6 d2 l6 hs1 hs2
  go_wp2_with fail
  go_ret
  refine ⟨some ⟨g3, 0, none⟩, n + 1, c5, hs.take k ++ [(B, m, d)] ++ hs.drop k, rfl, ⟨HST.out, ?_, ?_⟩, HGW.out, ?_⟩
  ·rw [HV.out]; simp only [List.length_append, List.length_take, List.length_drop, List.length_cons, List.length_nil, HFL.out]; omega
  ·intro i x t h1 h2
   rw [HV.out] at h2
   rcases ins_rows (by rw [HO.out.hlen, HFL.out]) (by rw [HFL.out]; exact hkn) i x t h1 h2 with ⟨j, h3, h4⟩ | ⟨h3, h4⟩
   ·exact HRW.out x t (HOq.out.row j x t h3 h4)
   ·subst h3 h4
    exact HRW.out _ _ (HF1.out.below hbq)
  ·intro g e
   rcases HAT.out with h | h
   ·exact .inl (h ▸ e)
   ·rw [h] at e
    simp only [World.size_alloc, Option.some.injEq] at e
    right; omega
end

section
attribute [local go_sem ↓] Go.wp_at_zero Go.wp_at_succ
def names12 : List ByteArray := [⟨#[73, 50]⟩, ⟨#[73, 51]⟩, ⟨#[86, 51]⟩, ⟨#[73, 52]⟩, ⟨#[76, 52]⟩, ⟨#[84, 52]⟩, ⟨#[83, 52]⟩, ⟨#[79, 52]⟩, ⟨#[88, 53]⟩, ⟨#[80, 53]⟩, ⟨#[87, 53]⟩, ⟨#[85, 53]⟩]
def vT2 (l : List ByteArray) : List Value := l.map fun t => .string t
theorem RdT2.at_ {w : World} {A : Option Addr} {xs : List ByteArray} {k : Nat} (h : Rd w A (vT2 xs)) (hk : k < xs.length) :
  ∃ g off, A = some ⟨g, off, none⟩ ∧ g < w.heap.size ∧ w.cell? ⟨g, off + k, none⟩ = some (.string xs[k]) := by
 rcases h with h | ⟨g, off, e, h⟩
 ·have h2 := congrArg List.length h
  simp [vT2] at h2
  subst h2
  simp at hk
 ·have h2 := h k (.string xs[k]) (by simp [vT2, List.getElem?_eq_getElem hk])
  exact ⟨g, off, e, World.block_lt_of_cell? w _ h2, h2⟩
theorem PieceNamed_d (t : ByteArray) (w : World) (ht : t ∈ names12) : Calls Tryz.prog 48 #[.string t] w (RetPS w) := by
 simp only [names12, List.mem_cons, List.not_mem_nil, or_false] at ht
 rcases ht with rfl | rfl | rfl | rfl | rfl | rfl | rfl | rfl | rfl | rfl | rfl | rfl
 all_goals
  go_enter Tryz.func48, Tryz.ntmps48
  go_wp2_with fail
  refine (ParseShape_s _ _ (by decide) (by decide)).mono ?_
  rintro e w1 ⟨D, k, cD, xs, b, rfl, h1, h2, h3, h4, h5, h6⟩
  have H1 := Lib.hid h1
  have H2 := Lib.hid h2
  have H5 := Lib.hid h5
  have H6 := Lib.hid h6
  clear h1 h2 h5 h6
  go_wp2_with fail
  go_ret2
  exact ⟨D, k, cD, xs, b, rfl, H1.out, H2.out, h3, h4, H5.out, H6.out⟩
def RetPc (w : World) (g : Nat) (A : Option Addr) (n c : Nat) (bs : List UInt8) (e : Ending) (w' : World) : Prop :=
 ∃ D k cD xs, e = .returned (.slice D k cD) ∧ Rd w' D (vC xs) ∧ xs.length = k ∧ k ≤ 70 ∧ k ≤ cD ∧ Cur w' g A n c bs ∧ w.grownBy w' (some g) ∧ ∀ b, ob D = some b → b ≠ g ∧ w.heap.size ≤ b
theorem l4Piece_s (A : Option Addr) (n c g : Nat) (bs : List UInt8) (w : World) (hc : Cur w g A n c bs) (hn : n ≤ 1048576) :
  Calls Tryz.prog 107 #[.pointer (some ⟨g, 0, none⟩)] w (RetPc w g A n c bs) := by
 have hgl : g < w.heap.size := by obtain ⟨i, x, hi, hB⟩ := hc.blk; exact hB.lt
 have hnm : Calls Tryz.prog 108 #[] w (fun e w' => ∃ D, e = .returned (.slice (some ⟨D, 0, none⟩) 12 12) ∧ Rd w' (some ⟨D, 0, none⟩) (vT2 names12) ∧ w.heap.size ≤ D ∧ Below w.heap.size w w') := by
  have hr := rd_new w 9 (vT2 names12).toArray
  have HR := Lib.hid hr
  clear hr hc
  go_enter Tryz.func108, Tryz.ntmps108
  go_wp2_with fail
  go_ret
  exact ⟨_, rfl, HR.out, Nat.le_refl _, bel_alloc (Below.refl _ _) _⟩
 have HNM := Lib.hid hnm
 have HC := Lib.hid hc
 clear hnm hc
 go_enter Tryz.func107, Tryz.ntmps107
 go_wp2_with fail
 refine HNM.out.mono ?_
 rintro e w1 ⟨E, rfl, hE, hEl, hb1⟩
 have HE := Lib.hid hE
 have HB1 := Lib.hid hb1
 have HC1 := Lib.hid (HC.out.below hb1)
 clear hE hb1 HC
 go_wp2_with fail
 refine (l1Below_s A n c g 12 bs w1 HC1.out hn (by omega) (by omega)).mono ?_
 rintro e w2 ⟨q, rfl, hq, hc2, hg2⟩
 have hE2 := HE.out.grown hg2 (fun b e r => by simp only [ob, Option.map_some, Option.some.injEq] at e; injection r with r; omega)
 obtain ⟨g1, o1, hA1, hg1, hx⟩ := RdT2.at_ hE2 (show q < names12.length from hq)
 injection hA1 with hA1
 injection hA1 with e1 e2
 subst e1 e2
 have hq2 : q < names12.length := hq
 obtain ⟨t, ht⟩ : ∃ t, names12[q]'hq2 = t := ⟨_, rfl⟩
 have htm : t ∈ names12 := by rw [← ht]; exact List.getElem_mem _
 rw [ht, Nat.zero_add] at hx
 have hq0 : (0 : Int) ≤ (q : Int) := by omega
 have hq1 : (q : Int) < 12 := by omega
 have HC2 := Lib.hid hc2
 have HF2 := Lib.hid (((FrG.refl w.heap.size g w).below HB1.out (Nat.le_refl _)).draw hg2 HB1.out.size)
 have HTM := Lib.hid htm
 have hs2 : w.heap.size ≤ w2.heap.size := by have := HB1.out.size; have := hg2.size; omega
 clear ht htm hE2 hc2 hg2
 go_wp2_with fail
 refine (PieceNamed_d t w2 HTM.out).mono ?_
 rintro e w3 ⟨D, k, cD, xs, b, rfl, h1, h2, h3, h4, h5, h6⟩
 have H1 := Lib.hid h1
 have H2 := Lib.hid h2
 have H5 := Lib.hid h5
 have H6 := Lib.hid h6
 clear h1 h2 h5 h6 hx
 go_wp2_with fail
 go_ret
 exact ⟨D, k, cD, xs, rfl, H1.out, H2.out, h3, h4, HC2.out.below H5.out, (HF2.out.below H5.out hs2).grown, fun b e => by have := H6.out b e; omega⟩
structure PcF (base : Nat) (w : World) (B : Option Addr) (q cB : Nat) (hs : List H) (P : List (List C)) : Prop where
 own : w.ownsRow base 52 1 (.slice B q cB) q (vS hs)
 len : hs.length = P.length
 row : ∀ k (a : k < hs.length) (b : k < P.length), P[k].length = hs[k].2.1 ∧ P[k].length ≤ 70 ∧ Rd w hs[k].1 (vC P[k])
 low : ∀ x ∈ hs, ∀ b, ob x.1 = some b → base ≤ b
 off : ∀ k (a : k < hs.length) (b : k < P.length), 0 < P[k].length → ∀ g, ob hs[k].1 = some g → ob B ≠ some g
section
variable {base : Nat} {w w' : World} {B : Option Addr} {q cB : Nat} {hs : List H} {P : List (List C)}
theorem rdC_len {f : List C} {A : Option Addr} (h : Rd w A (vC f)) (h0 : 0 < f.length) : ∀ g, ob A = some g → g < w.heap.size := fun g e => by
 obtain ⟨g1, o1, rfl, hg, _⟩ := RdC.at_ h h0
 simp only [ob, Option.map_some, Option.some.injEq] at e
 omega
theorem PcF.qlen (h : PcF base w B q cB hs P) : hs.length = q := by have := own_len h.own; rw [vS_length] at this; omega
theorem PcF.below (h : PcF base w B q cB hs P) (hb : Below w.heap.size w w') : PcF base w' B q cB hs P :=
 ⟨own_keep h.own hb, h.len, fun k a b => ⟨(h.row k a b).1, (h.row k a b).2.1, (h.row k a b).2.2.below hb⟩, h.low, h.off⟩
theorem PcF.draw {g : Nat} (h : PcF base w B q cB hs P) (hg : w.grownBy w' (some g)) (hgb : g < base) : PcF base w' B q cB hs P :=
 ⟨own_keptD h.own hg (fun b e r => by injection r with r; have := (own_lt h.own b e).1; omega), h.len, fun k a b => ⟨(h.row k a b).1, (h.row k a b).2.1, (h.row k a b).2.2.grown hg (fun b e r => by injection r with r; have := h.low _ (List.getElem_mem a) b e; omega)⟩, h.low, h.off⟩
theorem PcF.rdp (h : PcF base w B q cB hs P) : RdP w B q hs P := ⟨Rd.of_own h.own, h.qlen, by rw [← h.len, h.qlen], fun k a b => ⟨(h.row k a b).1, (h.row k a b).2.2⟩⟩
theorem PcF.one {D : Option Addr} {k cD : Nat} {xs : List C} (hr : Rd w D (vC xs)) (hl : xs.length = k) (hk : k ≤ 70) (hb : base ≤ w.heap.size) (hD : ∀ b, ob D = some b → base ≤ b) :
  PcF base (w.alloc (.cells #[.slice D k cD] 52)) (some ⟨w.heap.size, 0, none⟩) 1 1 [(D, k, cD)] [xs] := by
 refine ⟨own_new w _ 1 1 #[.slice D k cD] rfl (by simp [maxLen]) hb, rfl, fun j a b => ?_, fun x hx b e => ?_, fun j a b h0 g e r => ?_⟩
 ·obtain rfl : j = 0 := by simp at a; omega
  exact ⟨hl, by simp only [List.getElem_cons_zero]; omega, hr.alloc _⟩
 ·rw [List.mem_singleton] at hx
  subst hx
  exact hD b e
 ·obtain rfl : j = 0 := by simp at a; omega
  simp only [List.getElem_cons_zero] at h0 e
  have := rdC_len hr h0 g e
  simp only [ob, Option.map_some, Option.some.injEq] at r
  omega
theorem PcF.push {D : Option Addr} {k cD : Nat} {xs : List C} {B' : Option Addr} {c' : Nat} {w2 : World} (h : PcF base w B q cB hs P) (hr : Rd w D (vC xs)) (hl : xs.length = k) (hk : k ≤ 70) (hD : ∀ b, ob D = some b → base ≤ b ∧ ob B ≠ some b)
  (ho : w2.ownsRow base 52 1 (.slice B' (q + 1) c') (q + 1) (vS (hs ++ [(D, k, cD)]))) (hg : w.grownBy w2 (ob B)) (ha : ob B' = ob B ∨ ∀ g, ob B' = some g → w.heap.size ≤ g) : PcF base w2 B' (q + 1) c' (hs ++ [(D, k, cD)]) (P ++ [xs]) := by
 have hlen : (hs ++ [(D, k, cD)]).length = (P ++ [xs]).length := by simp [h.len]
 have hrow : ∀ j (a : j < (hs ++ [(D, k, cD)]).length) (b : j < (P ++ [xs]).length), (P ++ [xs])[j].length = (hs ++ [(D, k, cD)])[j].2.1 ∧ (P ++ [xs])[j].length ≤ 70 ∧ Rd w (hs ++ [(D, k, cD)])[j].1 (vC (P ++ [xs])[j]) ∧ (0 < (P ++ [xs])[j].length → ∀ g, ob (hs ++ [(D, k, cD)])[j].1 = some g → ob B ≠ some g) := fun j a b => by
  by_cases hj : j < hs.length
  ·have hj2 : j < P.length := h.len ▸ hj
   simp only [List.getElem_append_left hj, List.getElem_append_left hj2]
   exact ⟨(h.row j hj hj2).1, (h.row j hj hj2).2.1, (h.row j hj hj2).2.2, h.off j hj hj2⟩
  ·have e : j = hs.length := by simp at a; omega
   subst e
   have e3 : (hs ++ [((D, k, cD) : H)])[hs.length]'a = (D, k, cD) := by simp
   have e4 : (P ++ [xs])[hs.length]'b = xs := by rw [List.getElem_append_right (Nat.le_of_eq h.len.symm)]; simp
   rw [e3, e4]
   exact ⟨hl, by omega, hr, fun _ g e => (hD g e).2⟩
 refine ⟨ho, hlen, fun j a b => ?_, fun x hx b e => ?_, fun j a b h0 g e r => ?_⟩
 ·obtain ⟨h1, h2, h3, h4⟩ := hrow j a b
  refine ⟨h1, h2, ?_⟩
  by_cases h0 : 0 < (P ++ [xs])[j].length
  ·exact h3.grown hg (fun g e r => h4 h0 g e r.symm)
  ·left
   rw [List.eq_nil_of_length_eq_zero (by omega : (P ++ [xs])[j].length = 0)]
   rfl
 ·rcases List.mem_append.1 hx with hx | hx
  ·exact h.low x hx b e
  ·rw [List.mem_singleton] at hx
   subst hx
   exact (hD b e).1
 ·obtain ⟨h1, h2, h3, h4⟩ := hrow j a b
  rcases ha with ha | ha
  ·rw [ha] at r
   exact h4 h0 g e r
  ·have h5 := ha g r
   have h6 := rdC_len h3 h0 g e
   omega
end
theorem totC_leP {m : Nat} : ∀ P : List (List C), (∀ f ∈ P, f.length ≤ m) → totC P ≤ m * P.length
 | [], _ => by simp [totC]
 | f :: t, h => by
  have h1 := totC_leP t fun g hg => h g (List.mem_cons_of_mem _ hg)
  have h2 := h f (List.mem_cons_self ..)
  rw [show totC (f :: t) = f.length + totC t from by simp [totC], List.length_cons, Nat.mul_succ]
  omega
def RetPs (w : World) (g : Nat) (A : Option Addr) (n c : Nat) (bs : List UInt8) (e : Ending) (w' : World) : Prop :=
 ∃ B q cB hs P, e = .returned (.slice B q cB) ∧ PcF w.heap.size w' B q cB hs P ∧ q ≤ 5 ∧ Cur w' g A n c bs ∧ w.grownBy w' (some g)
theorem l7Pieces_s (A : Option Addr) (n c g : Nat) (bs : List UInt8) (w : World) (hc : Cur w g A n c bs) (hn : n ≤ 1048576) :
  Calls Tryz.prog 58 #[.pointer (some ⟨g, 0, none⟩)] w (RetPs w g A n c bs) := by
 have hgl : g < w.heap.size := by obtain ⟨i, x, hi, hB⟩ := hc.blk; exact hB.lt
 have hAb : 0 < n → ∀ b, ob A = some b → b < w.heap.size := fun h0 b e => by
  obtain ⟨gb, off, hA, hgb, _⟩ := RdB.at_ hc.rd (show 0 < bs.length by rw [hc.len]; exact h0)
  subst hA
  simp only [ob, Option.map_some, Option.some.injEq] at e
  omega
 have HAB : Hid (0 < n → ∀ b, ob A = some b → w.heap.size ≤ b → False) := fun h0 b e h => by have := hAb h0 b e; omega
 have HC := Lib.hid hc
 clear hAb hc
 go_enter Tryz.func58, Tryz.ntmps58
 go_wp2_with fail
 refine (l4Piece_s A n c g bs w HC.out hn).mono ?_
 rintro e w1 ⟨D, k, cD, xs, rfl, hr, hl, hk, hkc, hc1, hg1, hD⟩
 have hs1 : w.heap.size ≤ w1.heap.size := hg1.size
 have hP := PcF.one (base := w.heap.size) (w := w1) (cD := cD) hr hl hk hs1 (fun b e => (hD b e).2)
 have hC2 := hc1.below (bel_alloc (Below.refl _ _) (.cells #[.slice D k cD] 52))
 have hF2 := ((FrG.refl w.heap.size g w).draw hg1 (Nat.le_refl _)).below (bel_alloc (Below.refl _ _) (.cells #[.slice D k cD] 52)) hs1
 have HP := Lib.hid hP
 have HC2 := Lib.hid hC2
 have HF2 := Lib.hid hF2
 clear hr hl hc1 hg1 hD hP hC2 hF2 HC
 go_wp2_with fail
 obtain ⟨w2, hw2⟩ : ∃ w2, w1.alloc (.cells #[.slice D k cD] 52) = w2 := ⟨_, rfl⟩
 have hs2 : w.heap.size ≤ w2.heap.size := by rw [← hw2]; simp; omega
 rw [hw2] at HP HC2 HF2 ⊢
 obtain ⟨B, hB⟩ : ∃ B, (some (⟨w1.heap.size, 0, none⟩ : Addr)) = B := ⟨_, rfl⟩
 rw [hB] at HP ⊢
 clear hw2 hB
 refine (l1Once_s A n c g 3 bs w2 HC2.out hn (by omega) (by omega)).mono ?_
 rintro e w3 ⟨o, rfl, hc3, hg3⟩
 have HC3 := Lib.hid hc3
 have HP3 := Lib.hid (HP.out.draw hg3 hgl)
 have HF3 := Lib.hid (HF2.out.draw hg3 hs2)
 have hs3 : w.heap.size ≤ w3.heap.size := by have := hg3.size; omega
 clear hc3 hg3 HP HC2 HF2
 cases o with
 | false =>
  go_wp2_with fail
  refine (l1Once_s A n c g 20 bs w3 HC3.out hn (by omega) (by omega)).mono ?_
  rintro e x4 ⟨o2, rfl, hc4o, hg4o⟩
  have HCo4 := Lib.hid hc4o
  have HPo4 := Lib.hid (HP3.out.draw hg4o hgl)
  have HFo4 := Lib.hid (HF3.out.draw hg4o hs3)
  have szo4 : w.heap.size ≤ x4.heap.size := by have := hg4o.size; omega
  clear hc4o hg4o HP3 HC3 HF3
  cases o2 with
  | false =>
   go_wp2_with fail
   go_ret
   exact ⟨B, 1, 1, _, _, rfl, HPo4.out, by omega, HCo4.out, HFo4.out.grown⟩
  | true =>
   go_wp2_with fail
   refine (l2Any_s A n c g bs x4 HCo4.out hn).mono ?_
   rintro e v4 ⟨D4, k4, cD4, xs4, rfl, hr4, hl4, hk4, hkc4, hc4, hg4, hD4⟩
   have hk4b : k4 ≤ 70 := by omega
   have HC4 := Lib.hid hc4
   have HP4 := Lib.hid (HPo4.out.draw hg4 hgl)
   have HF4 := Lib.hid (HFo4.out.draw hg4 szo4)
   have sz4 : w.heap.size ≤ v4.heap.size := by have := hg4.size; omega
   have hDD4 : ∀ b, ob D4 = some b → w.heap.size ≤ b ∧ ob B ≠ some b := fun b e => by
    have h1 := (hD4 b e).2
    refine ⟨by omega, fun r => ?_⟩
    have h2 := (own_lt HPo4.out.own b r).2
    omega
   have HR4 := Lib.hid hr4
   have HL4 := Lib.hid hl4
   have HDD4 := Lib.hid hDD4
   clear hr4 hl4 hc4 hg4 hD4 hDD4 HPo4 HCo4 HFo4
   go_wp2_with (at_builtin; go_must (refine app_F _ rfl _ _ rfl w.heap.size _ _ _ [(D, k, cD)] rfl (HP4.out.own.alloc _) _ _ _ [(D4, k4, cD4)] rfl (rd_newS _ _ _) rfl (by omega) (by simp; omega) ?_); intro B4 c4 u4 ho4 hgx4 hat4; have HO4 := Lib.hid ho4; have HG4 := Lib.hid hgx4; have HAT4 := Lib.hid hat4; clear ho4 hgx4 hat4)
   go_ret
   have hP4p := PcF.push (HP4.out.below (bel_alloc (Below.refl _ _) (.cells #[.slice D4 k4 cD4] 52))) (HR4.out.alloc _) HL4.out hk4b HDD4.out HO4.out HG4.out (at_or HAT4.out (Nat.le_refl _))
   have hlo4 : ∀ b, ob B = some b → w.heap.size ≤ b := fun b e => (own_lt HP4.out.own b e).1
   have hC4p := (HC4.out.below (bel_alloc (Below.refl _ _) (.cells #[.slice D4 k4 cD4] 52))).row HG4.out (fun b e => by have := hlo4 b e; omega) (fun h0 b e r => HAB.out h0 b r (hlo4 b e))
   have hF4p := (HF4.out.below (bel_alloc (Below.refl _ _) (.cells #[.slice D4 k4 cD4] 52)) sz4).row HG4.out (by simp; omega) hlo4
   have HPp4 := Lib.hid hP4p
   have HCp4 := Lib.hid hC4p
   have HFp4 := Lib.hid hF4p
   have szp4 : w.heap.size ≤ u4.heap.size := by have := HG4.out.size; simp at this; omega
   clear hP4p hlo4 hC4p hF4p
   exact ⟨B4, 1 + 1, c4, _, _, rfl, HPp4.out, by omega, HCp4.out, HFp4.out.grown⟩
 | true =>
  go_wp2_with fail
  refine (l4Piece_s A n c g bs w3 HC3.out hn).mono ?_
  rintro e v5 ⟨D5, k5, cD5, xs5, rfl, hr5, hl5, hk5, hkc5, hc5, hg5, hD5⟩
  have hk5b : k5 ≤ 70 := by omega
  have HC5 := Lib.hid hc5
  have HP5 := Lib.hid (HP3.out.draw hg5 hgl)
  have HF5 := Lib.hid (HF3.out.draw hg5 hs3)
  have sz5 : w.heap.size ≤ v5.heap.size := by have := hg5.size; omega
  have hDD5 : ∀ b, ob D5 = some b → w.heap.size ≤ b ∧ ob B ≠ some b := fun b e => by
   have h1 := (hD5 b e).2
   refine ⟨by omega, fun r => ?_⟩
   have h2 := (own_lt HP3.out.own b r).2
   omega
  have HR5 := Lib.hid hr5
  have HL5 := Lib.hid hl5
  have HDD5 := Lib.hid hDD5
  clear hr5 hl5 hc5 hg5 hD5 hDD5 HP3 HC3 HF3
  go_wp2_with (at_builtin; go_must (refine app_F _ rfl _ _ rfl w.heap.size _ _ _ [(D, k, cD)] rfl (HP5.out.own.alloc _) _ _ _ [(D5, k5, cD5)] rfl (rd_newS _ _ _) rfl (by omega) (by simp; omega) ?_); intro B5 c5 u5 ho5 hgx5 hat5; have HO5 := Lib.hid ho5; have HG5 := Lib.hid hgx5; have HAT5 := Lib.hid hat5; clear ho5 hgx5 hat5)
  have hP5p := PcF.push (HP5.out.below (bel_alloc (Below.refl _ _) (.cells #[.slice D5 k5 cD5] 52))) (HR5.out.alloc _) HL5.out hk5b HDD5.out HO5.out HG5.out (at_or HAT5.out (Nat.le_refl _))
  have hlo5 : ∀ b, ob B = some b → w.heap.size ≤ b := fun b e => (own_lt HP5.out.own b e).1
  have hC5p := (HC5.out.below (bel_alloc (Below.refl _ _) (.cells #[.slice D5 k5 cD5] 52))).row HG5.out (fun b e => by have := hlo5 b e; omega) (fun h0 b e r => HAB.out h0 b r (hlo5 b e))
  have hF5p := (HF5.out.below (bel_alloc (Below.refl _ _) (.cells #[.slice D5 k5 cD5] 52)) sz5).row HG5.out (by simp; omega) hlo5
  have HPp5 := Lib.hid hP5p
  have HCp5 := Lib.hid hC5p
  have HFp5 := Lib.hid hF5p
  have szp5 : w.heap.size ≤ u5.heap.size := by have := HG5.out.size; simp at this; omega
  clear hP5p hlo5 hC5p hF5p
  refine (l1Once_s A n c g 20 bs u5 HCp5.out hn (by omega) (by omega)).mono ?_
  rintro e x6 ⟨o2, rfl, hc6o, hg6o⟩
  have HCo6 := Lib.hid hc6o
  have HPo6 := Lib.hid (HPp5.out.draw hg6o hgl)
  have HFo6 := Lib.hid (HFp5.out.draw hg6o szp5)
  have szo6 : w.heap.size ≤ x6.heap.size := by have := hg6o.size; omega
  clear hc6o hg6o HPp5 HCp5 HFp5
  cases o2 with
  | false =>
   go_wp2_with fail
   go_ret
   exact ⟨B5, (1 + 1), c5, _, _, rfl, HPo6.out, by omega, HCo6.out, HFo6.out.grown⟩
  | true =>
   go_wp2_with fail
   refine (l2Any_s A n c g bs x6 HCo6.out hn).mono ?_
   rintro e v6 ⟨D6, k6, cD6, xs6, rfl, hr6, hl6, hk6, hkc6, hc6, hg6, hD6⟩
   have hk6b : k6 ≤ 70 := by omega
   have HC6 := Lib.hid hc6
   have HP6 := Lib.hid (HPo6.out.draw hg6 hgl)
   have HF6 := Lib.hid (HFo6.out.draw hg6 szo6)
   have sz6 : w.heap.size ≤ v6.heap.size := by have := hg6.size; omega
   have hDD6 : ∀ b, ob D6 = some b → w.heap.size ≤ b ∧ ob B5 ≠ some b := fun b e => by
    have h1 := (hD6 b e).2
    refine ⟨by omega, fun r => ?_⟩
    have h2 := (own_lt HPo6.out.own b r).2
    omega
   have HR6 := Lib.hid hr6
   have HL6 := Lib.hid hl6
   have HDD6 := Lib.hid hDD6
   clear hr6 hl6 hc6 hg6 hD6 hDD6 HPo6 HCo6 HFo6
   go_wp2_with (at_builtin; go_must (refine app_F _ rfl _ _ rfl w.heap.size _ _ _ ([(D, k, cD)] ++ [(D5, k5, cD5)]) rfl (HP6.out.own.alloc _) _ _ _ [(D6, k6, cD6)] rfl (rd_newS _ _ _) rfl (by omega) (by simp; omega) ?_); intro B6 c6 u6 ho6 hgx6 hat6; have HO6 := Lib.hid ho6; have HG6 := Lib.hid hgx6; have HAT6 := Lib.hid hat6; clear ho6 hgx6 hat6)
   go_ret
   have hP6p := PcF.push (HP6.out.below (bel_alloc (Below.refl _ _) (.cells #[.slice D6 k6 cD6] 52))) (HR6.out.alloc _) HL6.out hk6b HDD6.out HO6.out HG6.out (at_or HAT6.out (Nat.le_refl _))
   have hlo6 : ∀ b, ob B5 = some b → w.heap.size ≤ b := fun b e => (own_lt HP6.out.own b e).1
   have hC6p := (HC6.out.below (bel_alloc (Below.refl _ _) (.cells #[.slice D6 k6 cD6] 52))).row HG6.out (fun b e => by have := hlo6 b e; omega) (fun h0 b e r => HAB.out h0 b r (hlo6 b e))
   have hF6p := (HF6.out.below (bel_alloc (Below.refl _ _) (.cells #[.slice D6 k6 cD6] 52)) sz6).row HG6.out (by simp; omega) hlo6
   have HPp6 := Lib.hid hP6p
   have HCp6 := Lib.hid hC6p
   have HFp6 := Lib.hid hF6p
   have szp6 : w.heap.size ≤ u6.heap.size := by have := HG6.out.size; simp at this; omega
   clear hP6p hlo6 hC6p hF6p
   exact ⟨B6, (1 + 1) + 1, c6, _, _, rfl, HPp6.out, by omega, HCp6.out, HFp6.out.grown⟩
end

section
attribute [local go_sem ↓] Go.wp_at_zero Go.wp_at_succ
theorem bel_rowO {w X w2 : World} {row : Option Nat} (h : Below w.heap.size w X) (k : X.grownBy w2 row) : w.grownBy w2 row :=
 ⟨k.os.trans h.os, k.tape.trans h.tape, k.output.trans h.output, Nat.le_trans h.size k.size, fun b hb hn => (k.block b (Nat.lt_of_lt_of_le hb h.size) hn).trans (h.block b hb)⟩
theorem PcF.baseO {base base' : Nat} {w : World} {B : Option Addr} {q cB : Nat} {hs : List H} {P : List (List C)} (h : PcF base w B q cB hs P) (hb : base' ≤ base) : PcF base' w B q cB hs P :=
 ⟨own_base h.own hb, h.len, h.row, fun x hx b e => Nat.le_trans hb (h.low x hx b e), h.off⟩
theorem totC_le70O {base : Nat} {w : World} {B : Option Addr} {q cB : Nat} {hs : List H} {P : List (List C)} (h : PcF base w B q cB hs P) (hq : q ≤ 5) : totC P ≤ 350 := by
 have h1 := totC_leP (m := 70) P (fun f hf => by
  obtain ⟨k, hk, rfl⟩ := List.getElem_of_mem hf
  exact (h.row k (by rw [h.len]; exact hk) hk).2.1)
 have h2 := h.qlen
 have h3 := h.len
 have : 70 * P.length ≤ 350 := by omega
 omega
def RetRO (w : World) (e : Ending) (w' : World) : Prop :=
 ∃ (W : Int) (k : Nat) (D : Option Addr) (cD : Nat) (rows : List Int) (B : Option Addr) (q cB : Nat) (hs : List H) (P : List (List C)), e = .returned (.tuple #[.agg #[.int .i64 W, .slice D k cD], .slice B q cB]) ∧ Rd w' D (vI rows) ∧ rows.length = k ∧ k ≤ 9 ∧ (∀ b, ob D = some b → w.heap.size < b) ∧ PcF (w.heap.size + 1) w' B q cB hs P ∧ q ≤ 5 ∧ Below w.heap.size w w'
theorem l8Region_s (A : Option Addr) (n c g : Nat) (bs : List UInt8) (w : World) (hc : Cur w g A n c bs) (hn : n ≤ 1048576) :
  Calls Tryz.prog 127 #[.pointer (some ⟨g, 0, none⟩)] w (RetRgA w g A n c bs) := by
 have hgl : g < w.heap.size := by obtain ⟨i, x, hi, hB⟩ := hc.blk; exact hB.lt
 have hAb : 0 < n → ∀ b, ob A = some b → b < w.heap.size := fun h0 b e => by
  obtain ⟨gb, off, hA, hgb, _⟩ := RdB.at_ hc.rd (show 0 < bs.length by rw [hc.len]; exact h0)
  subst hA
  simp only [ob, Option.map_some, Option.some.injEq] at e
  omega
 have HAB : Hid (0 < n → ∀ b, ob A = some b → w.heap.size ≤ b → False) := fun h0 b e h => by have := hAb h0 b e; omega
 clear hAb
 have hBZ := Blk.new w 26 #[.int .i64 0, .slice none 0 0]
 have hF0 := (FrG.refl w.heap.size g w).below (bel_alloc (Below.refl _ _) (.cells #[.int .i64 0, .slice none 0 0] 26)) (Nat.le_refl _)
 have hC0 := hc.below (bel_alloc (Below.refl _ _) (.cells #[.int .i64 0, .slice none 0 0] 26))
 obtain ⟨w1, hw1⟩ : ∃ w1, w.alloc (.cells #[.int .i64 0, .slice none 0 0] 26) = w1 := ⟨_, rfl⟩
 have hsz1 : w1.heap.size = w.heap.size + 1 := by rw [← hw1]; simp
 rw [hw1] at hBZ hF0 hC0
 have HW1 := Lib.hid hw1
 have HSZ1 := Lib.hid hsz1
 have HBZ := Lib.hid hBZ
 have HF0 := Lib.hid hF0
 have HC0 := Lib.hid hC0
 clear hBZ hF0 hC0 hw1 hsz1 hc
 go_enter Tryz.func127, Tryz.ntmps127
 go_wp2_with fail
 rw [HW1.out]
 clear HW1
 go_wp2_with fail
 refine (l1Once_s A n c g 14 bs w1 HC0.out hn (by omega) (by omega)).mono ?_
 rintro e w2 ⟨o, rfl, hc2, hg2⟩
 have HC2 := Lib.hid hc2
 have HF2 := Lib.hid (HF0.out.draw hg2 (by have := HSZ1.out; omega))
 have HZ2 := Lib.hid (HBZ.out.grown hg2 (fun e => by injection e with e; omega))
 have hs2 : w.heap.size + 1 ≤ w2.heap.size := by have := hg2.size; have := HSZ1.out; omega
 clear hc2 hg2 HC0 HF0 HBZ
 cases o with
 | true =>
  go_wp2_with fail
  refine (l6Any_s A n c g bs w2 HC2.out hn).mono ?_
  rintro e w3 ⟨W, k, D, cD, rows, rfl, hO, hk9, hc3, hg3⟩
  have HO3 := Lib.hid hO
  have HC3 := Lib.hid hc3
  have HF3 := Lib.hid (HF2.out.draw hg3 (by omega))
  have HZ3 := Lib.hid (HZ2.out.grown hg3 (fun e => by injection e with e; omega))
  have z0 : w3.cell? ⟨w.heap.size, 0, none⟩ = some (.int .i64 0) := by simpa using HZ3.out.cell 0
  have z1 : w3.cell? ⟨w.heap.size, 1, none⟩ = some (.slice none 0 0) := by simpa using HZ3.out.cell 1
  have g0 := HZ3.out.frozen 0
  have g1 := HZ3.out.frozen 1
  have zl := HZ3.out.lt
  have hs3 := hg3.size
  clear hO hc3 hg3 HC2 HF2 HZ2
  have hD := (HZ3.out.set_ 0 (.int .i64 W)).set_ 1 (.slice D k cD)
  have e0 : ((w3.setCell ⟨w.heap.size, 0, none⟩ (.int .i64 W)).setCell ⟨w.heap.size, 1, none⟩ (.slice D k cD)).cell? ⟨w.heap.size, 0, none⟩ = some (.int .i64 W) := by simpa using hD.cell 0
  have e1 : ((w3.setCell ⟨w.heap.size, 0, none⟩ (.int .i64 W)).setCell ⟨w.heap.size, 1, none⟩ (.slice D k cD)).cell? ⟨w.heap.size, 1, none⟩ = some (.slice D k cD) := by simpa using hD.cell 1
  have E0 := Lib.hid e0
  have E1 := Lib.hid e1
  clear hD e0 e1
  go_wp2_with fail
  have e0 := E0.out
  have e1 := E1.out
  have ne : ∀ b, ob D = some b → b ≠ w.heap.size := fun b e => by have := (own_lt HO3.out b e).1; omega
  have gz : w3.grownBy ((w3.setCell ⟨w.heap.size, 0, none⟩ (.int .i64 W)).setCell ⟨w.heap.size, 1, none⟩ (.slice D k cD)) (some w.heap.size) := grown_set (p := ⟨w.heap.size, 1, none⟩) (grown_set (p := ⟨w.heap.size, 0, none⟩) (World.grownBy.refl _ _) rfl _) rfl _
  exact bodyPost_ret (v := .agg #[.int .i64 W, .slice D k cD]) (by simp [results, Tryz.results127, go_sem, e0, e1]) rfl
   ⟨W, k, D, cD, rows, rfl, own_set (own_set (own_base HO3.out (by omega)) ne _) ne _, by omega, HC3.out.row gz (fun b e => by injection e with e; omega) (fun h0 b e r => HAB.out h0 b r (by injection e with e; omega)), (HF3.out.row gz (by omega) (fun b e => by injection e with e; omega)).grown⟩
 | false =>
  go_wp2_with fail
  refine (l6Draw_s A n c g 4 bs w2 HC2.out hn (by omega) (by omega)).mono ?_
  rintro e w3 ⟨m, k, D, cD, rows, rfl, hO, hm1, hm6, hk1, hk6, hc3, hg3⟩
  obtain ⟨W, hW⟩ : ∃ W : Int, (m : Int) = W := ⟨_, rfl⟩
  rw [hW]
  clear hW
  have HO3 := Lib.hid hO
  have HC3 := Lib.hid hc3
  have HF3 := Lib.hid (HF2.out.draw hg3 (by omega))
  have HZ3 := Lib.hid (HZ2.out.grown hg3 (fun e => by injection e with e; omega))
  have z0 : w3.cell? ⟨w.heap.size, 0, none⟩ = some (.int .i64 0) := by simpa using HZ3.out.cell 0
  have z1 : w3.cell? ⟨w.heap.size, 1, none⟩ = some (.slice none 0 0) := by simpa using HZ3.out.cell 1
  have g0 := HZ3.out.frozen 0
  have g1 := HZ3.out.frozen 1
  have zl := HZ3.out.lt
  have hs3 := hg3.size
  clear hO hc3 hg3 HC2 HF2 HZ2
  have hD := (HZ3.out.set_ 0 (.int .i64 W)).set_ 1 (.slice D k cD)
  have e0 : ((w3.setCell ⟨w.heap.size, 0, none⟩ (.int .i64 W)).setCell ⟨w.heap.size, 1, none⟩ (.slice D k cD)).cell? ⟨w.heap.size, 0, none⟩ = some (.int .i64 W) := by simpa using hD.cell 0
  have e1 : ((w3.setCell ⟨w.heap.size, 0, none⟩ (.int .i64 W)).setCell ⟨w.heap.size, 1, none⟩ (.slice D k cD)).cell? ⟨w.heap.size, 1, none⟩ = some (.slice D k cD) := by simpa using hD.cell 1
  have E0 := Lib.hid e0
  have E1 := Lib.hid e1
  clear hD e0 e1
  go_wp2_with fail
  have e0 := E0.out
  have e1 := E1.out
  have ne : ∀ b, ob D = some b → b ≠ w.heap.size := fun b e => by have := (own_lt HO3.out b e).1; omega
  have gz : w3.grownBy ((w3.setCell ⟨w.heap.size, 0, none⟩ (.int .i64 W)).setCell ⟨w.heap.size, 1, none⟩ (.slice D k cD)) (some w.heap.size) := grown_set (p := ⟨w.heap.size, 1, none⟩) (grown_set (p := ⟨w.heap.size, 0, none⟩) (World.grownBy.refl _ _) rfl _) rfl _
  exact bodyPost_ret (v := .agg #[.int .i64 W, .slice D k cD]) (by simp [results, Tryz.results127, go_sem, e0, e1]) rfl
   ⟨W, k, D, cD, rows, rfl, own_set (own_set (own_base HO3.out (by omega)) ne _) ne _, by omega, HC3.out.row gz (fun b e => by injection e with e; omega) (fun h0 b e r => HAB.out h0 b r (by injection e with e; omega)), (HF3.out.row gz (by omega) (fun b e => by injection e with e; omega)).grown⟩
theorem l8Both_s (A : Option Addr) (n c : Nat) (bs : List UInt8) (w : World) (hr : Rd w A (vB bs)) (hl : bs.length = n) (hn : n ≤ 1048576) :
  Calls Tryz.prog 74 #[.slice A n c] w (RetRO w) := by
 have hBZ := Blk.new w 26 #[.int .i64 0, .slice none 0 0]
 have hb0 := bel_alloc (Below.refl w.heap.size w) (.cells #[.int .i64 0, .slice none 0 0] 26)
 have hr0 := hr.below hb0
 obtain ⟨w1, hw1⟩ : ∃ w1, w.alloc (.cells #[.int .i64 0, .slice none 0 0] 26) = w1 := ⟨_, rfl⟩
 have hsz1 : w1.heap.size = w.heap.size + 1 := by rw [← hw1]; simp
 rw [hw1] at hBZ hb0 hr0
 have HW1 := Lib.hid hw1
 have HSZ1 := Lib.hid hsz1
 have HBZ := Lib.hid hBZ
 have HB0 := Lib.hid hb0
 have HR0 := Lib.hid hr0
 have HL := Lib.hid hl
 clear hBZ hb0 hw1 hsz1 hr hr0 hl
 go_enter Tryz.func74, Tryz.ntmps74
 go_wp2_with fail
 rw [HW1.out]
 clear HW1
 go_wp2_with fail
 refine (l1New_s A n c bs w1 HR0.out HL.out hn).mono ?_
 rintro e w2 ⟨g, rfl, hc, hg, hb2⟩
 have HC := Lib.hid hc
 have HB2 := Lib.hid (bel_trans HB0.out hb2)
 have HZ2 := Lib.hid (HBZ.out.below hb2)
 have hgl : g < w2.heap.size := by obtain ⟨i, x, hi, hB⟩ := hc.blk; exact hB.lt
 have hgz : w.heap.size < g := by have := HSZ1.out; omega
 have hs2 := HB2.out.size
 clear hc hb2 HR0 HBZ HB0 hg HSZ1
 go_wp2_with fail
 refine (l8Region_s A n c g bs w2 HC.out hn).mono ?_
 rintro e w3 ⟨W, k, D, cD, rows, rfl, hO, hk9, hc3, hg3⟩
 have ba := bel_alloc (Below.refl w3.heap.size w3) (.cells #[.int .i64 W, .slice D k cD] 26)
 have HRL := Lib.hid (by have h1 := own_len hO; rw [vI_length] at h1; omega : rows.length = k)
 have HN4 := Lib.hid (Blk.new w3 26 #[.int .i64 W, .slice D k cD])
 have HO4 := Lib.hid (own_keep hO ba)
 have HB4 := Lib.hid (bel_trans (bel_grown HB2.out hg3 (fun b e => by injection e with e; omega)) ba)
 have HC4 := Lib.hid (hc3.below ba)
 have HZ4 := Lib.hid ((HZ2.out.grown hg3 (fun e => by injection e with e; omega)).below ba)
 have hs3 := hg3.size
 obtain ⟨w4, hw4⟩ : ∃ w4, w3.alloc (.cells #[.int .i64 W, .slice D k cD] 26) = w4 := ⟨_, rfl⟩
 have hs4 : w4.heap.size = w3.heap.size + 1 := by rw [← hw4]; simp
 rw [hw4] at HN4 HO4 HB4 HC4 HZ4
 have HW4 := Lib.hid hw4
 have HS4 := Lib.hid hs4
 clear ba hw4 hs4 hO hc3 hg3 HC HZ2 HB2
 go_upto_region 3 with fail
 rw [HW4.out]
 clear HW4
 have c0 : w4.cell? ⟨w3.heap.size, 0, none⟩ = some (.int .i64 W) := by simpa using HN4.out.cell 0
 have c1 : w4.cell? ⟨w3.heap.size, 1, none⟩ = some (.slice D k cD) := by simpa using HN4.out.cell 1
 have cl := HN4.out.lt
 obtain ⟨gr, hgr⟩ : ∃ gr, w3.heap.size = gr := ⟨_, rfl⟩
 rw [hgr] at HN4 c0 c1 cl hs3 HS4 ⊢
 clear hgr
 have hne1 : gr ≠ w.heap.size := by omega
 have hgr4 : g < w4.heap.size := by have := HS4.out; omega
 go_region_with (go_at_call 58; refine (l7Pieces_s A n c g bs _ (HC4.out.below (bel_drew (Below.refl _ _))) hn).mono ?_; rintro e w10 ⟨B, q, cB, hs, P, rfl, hP10, hq10, hc10, hg10⟩; have HG10 := Lib.hid (bel_rowO (w := w4) (bel_drew (Below.refl _ _)) hg10); have HP10 := Lib.hid hP10; have HO10 := Lib.hid (own_keptD HO4.out HG10.out (fun b e r => by injection r with r; have := (own_lt HO4.out b e).1; omega)); have HN10 := Lib.hid (HN4.out.grown HG10.out (fun e => by injection e with e; omega)); have HZ10 := Lib.hid (HZ4.out.grown HG10.out (fun e => by injection e with e; omega)); have hs10 := HG10.out.size; clear hP10 hc10 hg10; have y0 : w10.cell? ⟨gr, 0, none⟩ = some (.int .i64 W) := (by simpa using HN10.out.cell 0); have y1 : w10.cell? ⟨gr, 1, none⟩ = some (.slice D k cD) := (by simpa using HN10.out.cell 1); have yl := HN10.out.lt; have x0 := HZ10.out.cell 0; have x1 := HZ10.out.cell 1; have f0 := HZ10.out.frozen 0; have f1 := HZ10.out.frozen 1; have xl := HZ10.out.lt)
 all_goals
  have ne : ∀ b, ob D = some b → b ≠ w.heap.size := fun b e => by have := (own_lt HO4.out b e).1; omega
  have gz : w10.grownBy ((w10.setCell ⟨w.heap.size, 0, none⟩ (.int .i64 W)).setCell ⟨w.heap.size, 1, none⟩ (.slice D k cD)) (some w.heap.size) := grown_set (p := ⟨w.heap.size, 1, none⟩) (grown_set (p := ⟨w.heap.size, 0, none⟩) (World.grownBy.refl _ _) rfl _) rfl _
  have GZ := Lib.hid gz
  have NE := Lib.hid ne
  have hZf := (HZ10.out.set_ 0 (.int .i64 W)).set_ 1 (.slice D k cD)
  have e0 : ((w10.setCell ⟨w.heap.size, 0, none⟩ (.int .i64 W)).setCell ⟨w.heap.size, 1, none⟩ (.slice D k cD)).cell? ⟨w.heap.size, 0, none⟩ = some (.int .i64 W) := by simpa using hZf.cell 0
  have e1 : ((w10.setCell ⟨w.heap.size, 0, none⟩ (.int .i64 W)).setCell ⟨w.heap.size, 1, none⟩ (.slice D k cD)).cell? ⟨w.heap.size, 1, none⟩ = some (.slice D k cD) := by simpa using hZf.cell 1
  have E0 := Lib.hid e0
  have E1 := Lib.hid e1
  clear hZf e0 e1 gz ne x0 x1 f0 f1
  go_wp2_with fail
  have e0 := E0.out
  have e1 := E1.out
  exact bodyPost_ret (v := .tuple #[.agg #[.int .i64 W, .slice D k cD], .slice B q cB]) (by simp [results, Tryz.results74, go_sem, e0, e1]) rfl
   ⟨W, k, D, cD, rows, B, q, cB, hs, P, rfl, Rd.of_own (own_set (own_set HO10.out NE.out _) NE.out _), HRL.out, hk9, fun b e => by have := (own_lt HO4.out b e).1; omega, (HP10.out.draw GZ.out (by have h : w4.drew.heap.size = w4.heap.size := rfl; omega)).baseO (by have h : w4.drew.heap.size = w4.heap.size := rfl; omega), hq10, bel_grown (bel_grown HB4.out HG10.out (fun b e => by injection e with e; omega)) GZ.out (fun b e => by injection e with e; omega)⟩
theorem DrawCountOrbits_s (A : Option Addr) (n c : Nat) (bs : List UInt8) (w : World) (hr : Rd w A (vB bs)) (hl : bs.length = n) (hn : n ≤ 1048576) :
  Calls Tryz.prog 14 #[.slice A n c] w (RetRO w) := by
 have hBZ := Blk.new w 26 #[.int .i64 0, .slice none 0 0]
 have hb0 := bel_alloc (Below.refl w.heap.size w) (.cells #[.int .i64 0, .slice none 0 0] 26)
 have hr0 := hr.below hb0
 obtain ⟨w1, hw1⟩ : ∃ w1, w.alloc (.cells #[.int .i64 0, .slice none 0 0] 26) = w1 := ⟨_, rfl⟩
 have hsz1 : w1.heap.size = w.heap.size + 1 := by rw [← hw1]; simp
 rw [hw1] at hBZ hb0 hr0
 have HW1 := Lib.hid hw1
 have HSZ1 := Lib.hid hsz1
 have HBZ := Lib.hid hBZ
 have HB0 := Lib.hid hb0
 have HR0 := Lib.hid hr0
 have HL := Lib.hid hl
 clear hBZ hb0 hw1 hsz1 hr hr0 hl
 go_enter Tryz.func14, Tryz.ntmps14
 go_wp2_with fail
 rw [HW1.out]
 clear HW1
 go_wp2_with fail
 refine (l8Both_s A n c bs w1 HR0.out HL.out hn).mono ?_
 rintro e w3 ⟨W, k, D, cD, rows, B, q, cB, hs, P, rfl, hr3, hl3, hk9, hD, hP, hq, hb3⟩
 have HB3 := Lib.hid hb3
 have hs3 := HB3.out.size
 have H1 := Lib.hid hr3
 have H2 := Lib.hid hl3
 have H3 := Lib.hid hD
 have H4 := Lib.hid hP
 clear hr3 hl3 hD hP hb3
 have HZ3 := Lib.hid (HBZ.out.below HB3.out)
 have z0 : w3.cell? ⟨w.heap.size, 0, none⟩ = some (.int .i64 0) := by simpa using HZ3.out.cell 0
 have z1 : w3.cell? ⟨w.heap.size, 1, none⟩ = some (.slice none 0 0) := by simpa using HZ3.out.cell 1
 have g0 := HZ3.out.frozen 0
 have g1 := HZ3.out.frozen 1
 have zl := HZ3.out.lt
 have hD4 := ((HZ3.out.set_ 0 (.int .i64 W)).set_ 1 (.slice D k cD)).alloc (.cells #[.int .i64 W, .slice D k cD] 26)
 have e0 : (((w3.setCell ⟨w.heap.size, 0, none⟩ (.int .i64 W)).setCell ⟨w.heap.size, 1, none⟩ (.slice D k cD)).alloc (.cells #[.int .i64 W, .slice D k cD] 26)).cell? ⟨w.heap.size, 0, none⟩ = some (.int .i64 W) := by simpa using hD4.cell 0
 have e1 : (((w3.setCell ⟨w.heap.size, 0, none⟩ (.int .i64 W)).setCell ⟨w.heap.size, 1, none⟩ (.slice D k cD)).alloc (.cells #[.int .i64 W, .slice D k cD] 26)).cell? ⟨w.heap.size, 1, none⟩ = some (.slice D k cD) := by simpa using hD4.cell 1
 have gz : w3.grownBy ((w3.setCell ⟨w.heap.size, 0, none⟩ (.int .i64 W)).setCell ⟨w.heap.size, 1, none⟩ (.slice D k cD)) (some w.heap.size) := grown_set (p := ⟨w.heap.size, 1, none⟩) (grown_set (p := ⟨w.heap.size, 0, none⟩) (World.grownBy.refl _ _) rfl _) rfl _
 have HE0 := Lib.hid e0
 have HE1 := Lib.hid e1
 have HGZ := Lib.hid gz
 have HB4 := Lib.hid (bel_alloc (Below.refl _ ((w3.setCell ⟨w.heap.size, 0, none⟩ (.int .i64 W)).setCell ⟨w.heap.size, 1, none⟩ (.slice D k cD))) (.cells #[.int .i64 W, .slice D k cD] 26))
 clear e0 e1 gz hD4
 go_wp2_with fail
 have e0 := HE0.out
 have e1 := HE1.out
 exact bodyPost_ret (v := .tuple #[.agg #[.int .i64 W, .slice D k cD], .slice B q cB]) (by simp [results, Tryz.results14, go_sem, e0, e1]) rfl
  ⟨W, k, D, cD, rows, B, q, cB, hs, P, rfl, ((H1.out.grown HGZ.out (fun b e r => by injection r with r; have := H3.out b e; have := HSZ1.out; omega)).below HB4.out), H2.out, hk9, fun b e => by have := H3.out b e; have := HSZ1.out; omega, ((H4.out.draw HGZ.out (by have := HSZ1.out; omega)).below HB4.out).baseO (by have := HSZ1.out; omega), hq, bel_trans (bel_grown (bel_trans HB0.out HB3.out) HGZ.out (fun b e => by injection e with e; omega)) HB4.out⟩
end
end Go.Proofs.YtkcgdnnipohehaaGreatDoor
