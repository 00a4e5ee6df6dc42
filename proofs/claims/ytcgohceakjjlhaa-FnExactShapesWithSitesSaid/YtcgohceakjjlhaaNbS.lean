/- The places around a shape: the reference. -/
import Derived.Test.YtcgohceakjjlhaaNbM
import Derived.Test.YtcgohceakjjlhaaExtS
import Derived.Outline
import Derived.WalkLawsBesides
import Derived.WalkSpells
import Derived.BigQuiet
import Derived.Deep.QuietTactic
import Derived.Deep.RegionHeld3
import Derived.Deep.RegionWith
import Derived.Deep.DeepCutAuto
import Derived.Deep.CutBlock
import Derived.Deep.DrawnRows
namespace Go.Proofs.Ytcgohceakjjlhaa
open Go.RowKit
set_option linter.unusedVariables false
attribute [local go_sem ↓] Go.wp_at_zero Go.wp_at_succ

set_option maxRecDepth 100000 in
set_option maxHeartbeats 6400000 in
theorem NeighbourCells_s (A : Option Addr) (n c : Nat) (xs : List C) (w : World) (hr : Rd w A (vC xs)) (hl : xs.length = n) (hs : isShape xs = true) :
    Calls Try.prog 66 #[.slice A n c] w (Ret w (.int .i64 (nbN xs))) := by
  have hn8 := (shape_len hs).2
  have hV : nbN xs = ((nbTo sidesS xs n).length : Nat) := by unfold nbN; rw [if_pos hs, hl]
  have HV := Lib.hid hV
  have HL := Lib.hid hl
  have HR := Lib.hid hr
  have HSH := Lib.hid hs
  rw [hl] at hn8
  have hnn : n ≤ 1099511627776 := by omega
  clear hl hr hs hV
  go_enter Try.func66, Try.ntmps66
  go_wp2_with fail
  refine (IsShape_s A n c xs _ HR.out HL.out hnn).mono ?_
  rw [HSH.out]
  rintro e w1 ⟨rfl, hb1⟩
  have HI1 := Lib.hid (own_lit2 w1 hb1.size)
  have hbw1 : Below w.heap.size w (w1.alloc (.cells #[] 54)) := bel_alloc hb1 _
  go_wp2_with fail
  go_loopw [4, 3] (fun e4 e3 wr => ∃ (k q cq : Nat) (D : Option Addr), k ≤ n ∧ e4 = .int .i64 k ∧ e3 = .slice D q cq ∧ wr.ownsRow w.heap.size 54 2 (.slice D q cq) q (vC (nbTo sidesS xs k)) ∧ Below w.heap.size w wr) (fun e4 _ _ => n - (intOf e4).toNat)
  case atStart => exact ⟨0, 0, 0, _, Nat.zero_le _, rfl, rfl, HI1.out, hbw1⟩
  case round =>
    clear HI1 hbw1 hb1
    obtain ⟨k, q, cq, D, hk, rfl, rfl, hO, hb⟩ := hrel
    have hql : (nbTo sidesS xs k).length = q := by have := own_len hO; rw [vC_length] at this; omega
    by_cases hlt : k < n
    · have hkl : k < xs.length := by rw [HL.out]; exact hlt
      have hk0 : (0 : Int) ≤ (k : Int) := by omega
      have hk1 : (k : Int) < (n : Int) := by omega
      have hon := shape_onB HSH.out _ (List.getElem_mem hkl)
      have hst := nbTo_succ sidesS xs k hkl
      have hsl := nbTo_len sidesS (fun _ => rfl) xs k (by omega)
      obtain ⟨p, hp⟩ : ∃ p, xs[k].1 = p := ⟨_, rfl⟩
      obtain ⟨r, hrr⟩ : ∃ r, xs[k].2 = r := ⟨_, rfl⟩
      rw [show xs[k] = (p, r) from Prod.ext hp hrr] at hon hst
      have hpr : 0 ≤ p ∧ p ≤ 7 ∧ 0 ≤ r ∧ r ≤ 7 := by simp [onB] at hon; omega
      obtain ⟨F0, hF0⟩ : ∃ F0, nbTo sidesS xs k = F0 := ⟨_, rfl⟩
      rw [hF0] at hst hsl hO hql
      have HST := Lib.hid hst
      have HO := Lib.hid hO
      have HP := Lib.hid hp
      have HRR := Lib.hid hrr
      have HPR := Lib.hid hpr
      have HQL := Lib.hid hql
      clear hst hO hp hrr hon hF0 hpr hql
      go_wp2_with fail
      go_loopw [5, 3] (fun e5 e3 wr => ∃ (j q cq : Nat) (D : Option Addr) (F : List C), j ≤ 4 ∧ e5 = .int .i64 j ∧ e3 = .slice D q cq ∧ F = ((sidesS (p, r)).take j).foldl (nbStep xs) F0 ∧ wr.ownsRow w.heap.size 54 2 (.slice D q cq) q (vC F) ∧ F.length ≤ 4 * k + j ∧ Below w.heap.size w wr) (fun e5 _ _ => 4 - (intOf e5).toNat)
      case atStart => exact ⟨0, q, cq, D, F0, Nat.zero_le _, rfl, rfl, rfl, HO.out, by omega, hb⟩
      case round =>
        clear HO hb hsl HQL
        obtain ⟨j, q, cq, D, F, hj, rfl, rfl, hF, hO, hfl, hb⟩ := hrel
        have hql : F.length = q := by have := own_len hO; rw [vC_length] at this; omega
        by_cases hj4 : j < 4
        · have hjl : j < (sidesS (p, r)).length := hj4
          have hj0 : (0 : Int) ≤ (j : Int) := by omega
          have hj1 : (j : Int) < 4 := by omega
          have hstep : ((sidesS (p, r)).take (j + 1)).foldl (nbStep xs) F0 = nbStep xs F (sidesS (p, r))[j] := by
            rw [List.take_succ_eq_append_getElem hjl, List.foldl_append, ← hF]
            rfl
          obtain ⟨da, db, e1, e2, hd1, hd2, hab⟩ : ∃ da db : Int, ((1 : Int) - (j : Int)).tmod 2 = da ∧ ((2 : Int) - (j : Int)).tmod 2 = db ∧ (-1 ≤ da ∧ da ≤ 1) ∧ (-1 ≤ db ∧ db ≤ 1) ∧ (sidesS (p, r))[j] = (p + da, r + db) := by
            rcases (by omega : j = 0 ∨ j = 1 ∨ j = 2 ∨ j = 3) with rfl | rfl | rfl | rfl
            · exact ⟨1, 0, by decide, by decide, by omega, by omega, by simp [sidesS]⟩
            · exact ⟨0, 1, by decide, by decide, by omega, by omega, by simp [sidesS]⟩
            · exact ⟨-1, 0, by decide, by decide, by omega, by omega, by simp [sidesS]; omega⟩
            · exact ⟨0, -1, by decide, by decide, by omega, by omega, by simp [sidesS]; omega⟩
          have hpr := HPR.out
          obtain ⟨x, hx⟩ : ∃ x, p + da = x := ⟨_, rfl⟩
          obtain ⟨y, hy⟩ : ∃ y, r + db = y := ⟨_, rfl⟩
          rw [hab, hx, hy] at hstep
          have v1 : IntKind.i64.wrap ((1 : Int) - (j : Int)) = (1 : Int) - (j : Int) := Go.IntWalk.i64_in _ (by omega)
          have v2 : IntKind.i64.wrap ((2 : Int) - (j : Int)) = (2 : Int) - (j : Int) := Go.IntWalk.i64_in _ (by omega)
          have v3 : IntKind.i64.wrap x = x := Go.IntWalk.i64_in _ (by omega)
          have v4 : IntKind.i64.wrap y = y := Go.IntWalk.i64_in _ (by omega)
          have v5 : IntKind.i64.wrap da = da := Go.IntWalk.i64_in _ (by omega)
          have v6 : IntKind.i64.wrap db = db := Go.IntWalk.i64_in _ (by omega)
          have HO := Lib.hid hO
          have HX := Lib.hid (HR.out.below hb)
          have HQF := Lib.hid hql
          have hq33 : q ≤ 4 * k + j := by rw [← hql]; exact hfl
          obtain ⟨g, off, hA, hg, d1, d2⟩ := RdC.at_ (HR.out.below hb) hkl
          subst hA
          rw [HP.out] at d1
          rw [HRR.out] at d2
          clear hF hO hab hd1 hd2 hpr hql hfl
          cases hh : hasC xs x y with
          | true =>
            have HN : Hid (((sidesS (p, r)).take (j + 1)).foldl (nbStep xs) F0 = F) := by show _ = F; rw [hstep]; unfold nbStep; simp only [hh, if_true]
            have HH := Lib.hid hh
            clear hh hstep
            go_wp2_with fail
            refine (HasCell_s _ n c xs x y _ HX.out HL.out hnn).mono ?_
            rw [HH.out]
            rintro e w2 ⟨rfl, hb2⟩
            have HO2 := Lib.hid (own_keep HO.out hb2)
            go_wp2_with fail
            exact ⟨⟨j + 1, q, cq, D, F, by omega, by go_num, rfl, HN.out.symm, HO2.out, by rw [HQF.out]; omega, bel_trans hb hb2⟩, by simp [intOf]; omega⟩
          | false =>
            cases hm : hasC F x y with
            | true =>
              have HN : Hid (((sidesS (p, r)).take (j + 1)).foldl (nbStep xs) F0 = F) := by show _ = F; rw [hstep]; unfold nbStep; simp only [hh, hm, if_true, Bool.false_eq_true, if_false]
              have HH := Lib.hid hh
              have HM := Lib.hid hm
              clear hh hm hstep
              go_wp2_with fail
              refine (HasCell_s _ n c xs x y _ HX.out HL.out hnn).mono ?_
              rw [HH.out]
              rintro e w2 ⟨rfl, hb2⟩
              have HO2 := Lib.hid (own_keep HO.out hb2)
              go_wp2_with fail
              refine (HasCell_s D q cq F x y _ (Rd.of_own HO2.out) HQF.out (by omega)).mono ?_
              rw [HM.out]
              rintro e w3 ⟨rfl, hb3⟩
              have HO3 := Lib.hid (own_keep HO2.out hb3)
              go_wp2_with fail
              exact ⟨⟨j + 1, q, cq, D, F, by omega, by go_num, rfl, HN.out.symm, HO3.out, by rw [HQF.out]; omega, bel_trans hb (bel_trans hb2 hb3)⟩, by simp [intOf]; omega⟩
            | false =>
              have HN : Hid (((sidesS (p, r)).take (j + 1)).foldl (nbStep xs) F0 = F ++ [(x, y)]) := by show _ = F ++ _; rw [hstep]; unfold nbStep; simp only [hh, hm, Bool.false_eq_true, if_false]
              have HH := Lib.hid hh
              have HM := Lib.hid hm
              clear hh hm hstep
              go_wp2_with fail
              refine (HasCell_s _ n c xs x y _ HX.out HL.out hnn).mono ?_
              rw [HH.out]
              rintro e w2 ⟨rfl, hb2⟩
              have HO2 := Lib.hid (own_keep HO.out hb2)
              go_wp2_with fail
              refine (HasCell_s D q cq F x y _ (Rd.of_own HO2.out) HQF.out (by omega)).mono ?_
              rw [HM.out]
              rintro e w3 ⟨rfl, hb3⟩
              have HO3 := Lib.hid (own_keep HO2.out hb3)
              have hbx : Below w.heap.size w w3 := bel_trans hb (bel_trans hb2 hb3)
              have hbz := hbx.size
              go_wp2_with (at_builtin; go_must (refine app_C _ rfl _ _ rfl w.heap.size D q cq F rfl (HO3.out.alloc _) _ _ _ [(x, y)] rfl (rd_newC _ _ _ _) rfl (by omega) (by simp; omega) ?_); intro D2 c2 w5 ho5 hg5 _; have HO5 := Lib.hid ho5; have hx5 : Below w.heap.size w w5 := bel_app (bel_alloc hbx _) hg5 (fun g h => (own_lt HO3.out g h).1); clear ho5 hg5)
              exact ⟨⟨j + 1, q + 1, c2, D2, F ++ [(x, y)], by omega, by go_num, rfl, HN.out.symm, HO5.out, by rw [List.length_append, HQF.out]; simp; omega, hx5⟩, by simp [intOf]; omega⟩
        · obtain rfl : j = 4 := by omega
          have hFe : F = nbTo sidesS xs (k + 1) := by rw [HST.out, hF]; rfl
          rw [hFe] at hO
          have HO := Lib.hid hO
          clear hF hO hFe
          go_wp2_with fail
          exact ⟨⟨k + 1, q, cq, D, by omega, by go_num, rfl, HO.out, hb⟩, by simp [intOf]; omega⟩
    · obtain rfl : k = n := by omega
      have HO := Lib.hid hO
      have HQ := Lib.hid hql
      have hk1 : ¬ (k : Int) < (k : Int) := by omega
      clear hO hql
      go_wp2_with fail
      go_ret
      exact ⟨by rw [HV.out, HQ.out]; rfl, hb⟩
end Go.Proofs.Ytcgohceakjjlhaa
