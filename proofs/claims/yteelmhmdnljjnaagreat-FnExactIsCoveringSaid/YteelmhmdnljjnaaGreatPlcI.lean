/- The placements of a shape, of all pieces, in a region: the program. -/
import Derived.Test.YteelmhmdnljjnaaGreatMcs
import Derived.Test.YteelmhmdnljjnaaGreatOrI
import Derived.Test.YteelmhmdnljjnaaGreatOrd
import Derived.Test.YteelmhmdnljjnaaGreatPieces
import Derived.Outline
import Derived.WalkLawsBesides
import Derived.WalkSpells
import Derived.BigQuiet
import Derived.Deep.QuietTactic
import Derived.Deep.RegionHeld3
import Derived.Deep.RegionWith
import Derived.Deep.DeepCutAuto
import Derived.Deep.CutBlock
import Derived.Deep.DrawnRows
namespace Go.Proofs.YteelmhmdnljjnaaGreat
open Go.RowKit
set_option linter.unusedVariables false
attribute [local go_sem ↓] Go.wp_at_zero Go.wp_at_succ

theorem mv_small {t : List C} (h : ∀ c ∈ t, (0 ≤ c.1 ∧ c.1 ≤ 14) ∧ (0 ≤ c.2 ∧ c.2 ≤ 14)) {x y : Nat} (hx : x ≤ 6) (hy : y ≤ 6) : ∀ d ∈ mv t (x : Int) (y : Int), small d := by
  intro d hd
  rw [mv_mem] at hd
  have := h _ hd
  simp only at this
  unfold small
  omega
set_option maxRecDepth 100000 in
set_option maxHeartbeats 6400000 in
theorem placements_i (W : Int) (A B : Option Addr) (n c k cb : Nat) (rows : List Int) (xs : List C) (w : World) (hr : Rd w A (vI rows)) (hl : rows.length = n) (hv : isReg W rows = true) (hrx : Rd w B (vC xs)) (hlx : xs.length = k) (hs : isShape xs = true) :
    Calls Tryz.prog 47 #[.agg #[.int .i64 W, .slice A n c], .slice B k cb] w (RetS w 3 1 (vI (plV W rows xs))) := by
  have hv0 := hv
  have hPV : plV W rows xs = ord (rawTo W rows (orV xs) (orV xs).length) := by unfold plV; rw [if_pos hv, ord_eq]; rfl
  obtain ⟨m, rfl, hm1, hm6, hn1, hn6, hrow⟩ := isReg_yes hv
  have h36 : m * rows.length ≤ 6 * 6 := Nat.mul_le_mul hm6 hn6
  have hmt : ((m : Int)).toNat = m := Int.toNat_natCast _
  have hfine := orV_fine (s := xs)
  have hol := orV_len xs
  have HLX := Lib.hid hlx
  have HSX := Lib.hid hs
  obtain ⟨F, hF⟩ : ∃ F, orV xs = F := ⟨_, rfl⟩
  rw [hF] at hPV hfine hol
  have HF := Lib.hid hF
  have HPV := Lib.hid hPV
  have HFI := Lib.hid hfine
  have HL := Lib.hid hl
  have HV := Lib.hid hv0
  have HR := Lib.hid (hr.alloc (.cells #[.int .i64 (m : Int), .slice A n c] 29))
  have HRX := Lib.hid (hrx.alloc (.cells #[.int .i64 (m : Int), .slice A n c] 29))
  have H36 : Hid (m * rows.length ≤ 36) := h36
  have HMT := Lib.hid hmt
  rw [hl] at hn1 hn6
  clear hl hr hrow hv hv0 hrx hlx hs h36 hmt hPV hfine hF
  go_enter Tryz.func47, Tryz.ntmps47
  go_wp2_with fail
  refine (OrientationsOf_i B k cb xs _ HRX.out HLX.out HSX.out).mono ?_
  rw [HF.out]
  rintro e w1 ⟨A0, q0, c0, hs, rfl, hO0, hb1⟩
  have HB1 := Lib.hid ((Blk.new w 29 #[.int .i64 (m : Int), .slice A n c]).below hb1)
  have HR1 := Lib.hid (HR.out.below hb1)
  have hbw1 : Below w.heap.size w w1 := bel_trans (bel_alloc (Below.refl _ _) _) hb1
  have HRF := Lib.hid hO0.rd
  have HFL := Lib.hid hO0.flen
  have hq8 : q0 ≤ 8 := by have := hO0.flen; omega
  clear hb1 hO0
  go_wp2_with fail
  go_loopw [15, 5] (fun e15 e5 wr => ∃ (i q cq : Nat) (D : Option Addr), i ≤ q0 ∧ e15 = .int .i64 i ∧ e5 = .slice D q cq ∧ wr.ownsRow w1.heap.size 3 1 (.slice D q cq) q (vI (rawTo (m : Int) rows F i)) ∧ Below w1.heap.size w1 wr) (fun e15 _ _ => q0 - (intOf e15).toNat)
  case atStart => exact ⟨0, 0, 0, none, Nat.zero_le _, rfl, rfl, own_nil _ _ _ _, Below.refl _ _⟩
  case round =>
    obtain ⟨i, q, cq, D, hi, rfl, rfl, hO, hb⟩ := hrel
    have hB := HB1.out.below hb
    have b0 : wr.cell? ⟨w.heap.size, 0, none⟩ = some (.int .i64 (m : Int)) := by simpa using hB.cell 0
    have b1 : wr.cell? ⟨w.heap.size, 1, none⟩ = some (.slice A n c) := by simpa using hB.cell 1
    have hgw := hB.lt
    clear hB
    by_cases hlt : i < q0
    · have hi0 : (0 : Int) ≤ (i : Int) := by omega
      have hi1 : (i : Int) < (q0 : Int) := by omega
      obtain ⟨x, t, gA, off, hsx, hfx, hAe, hg, d1, hrow⟩ := (HRF.out.below hb).at_ hlt
      have hft := HFI.out t (List.mem_of_getElem? hfx)
      have hstep : rawTo (m : Int) rows F (i + 1) = rawTo (m : Int) rows F i ++ rowY (m : Int) rows t n := by
        show _ ++ rowY _ _ (F.getD i []) rows.length = _
        rw [List.getD_eq_getElem?_getD, hfx, Option.getD_some, HL.out]
      have hol2 := (rawTo_msk H36.out F i).2
      obtain ⟨C1, m1, k1⟩ := x
      have hl1 : t.length = m1 := hrow.1
      obtain ⟨O, hOe⟩ : ∃ O, rawTo (m : Int) rows F i = O := ⟨_, rfl⟩
      rw [hOe] at hstep hO hol2
      have hrt : Rd w1 C1 (vC t) := (HRF.out.row i _ _ hsx hfx).2.1
      have HRT := Lib.hid hrt
      have HL1 := Lib.hid hl1
      have HFT := Lib.hid hft
      have HST := Lib.hid hstep
      have HO := Lib.hid hO
      have hOl : O.length ≤ 288 := by omega
      dsimp only at d1
      subst hAe
      clear hsx hfx hrow hstep hO hl1 hft hOe hrt hol2
      go_wp2_with fail
      go_loopw [22, 5] (fun e22 e5 wr => ∃ (y q cq : Nat) (D : Option Addr), y ≤ n ∧ e22 = .int .i64 y ∧ e5 = .slice D q cq ∧ wr.ownsRow w1.heap.size 3 1 (.slice D q cq) q (vI (O ++ rowY (m : Int) rows t y)) ∧ Below w1.heap.size w1 wr) (fun e22 _ _ => n - (intOf e22).toNat)
      case atStart => exact ⟨0, q, cq, D, Nat.zero_le _, rfl, rfl, by simpa [rowY] using HO.out, hb⟩
      case round =>
        clear HO hb b0 b1 hgw d1 hg
        obtain ⟨y, q, cq, D, hy, rfl, rfl, hO, hb⟩ := hrel
        have hB := HB1.out.below hb
        have b0 : wr.cell? ⟨w.heap.size, 0, none⟩ = some (.int .i64 (m : Int)) := by simpa using hB.cell 0
        have b1 : wr.cell? ⟨w.heap.size, 1, none⟩ = some (.slice A n c) := by simpa using hB.cell 1
        have hgw := hB.lt
        clear hB
        by_cases hly : y < n
        · have hy0 : (0 : Int) ≤ (y : Int) := by omega
          have hy1 : (y : Int) < (n : Int) := by omega
          have hstY : rowY (m : Int) rows t (y + 1) = rowY (m : Int) rows t y ++ rowX (m : Int) rows t y m := by show _ ++ rowX _ _ _ _ _ = _; rw [HMT.out]
          have hyl := (rowY_msk H36.out t y).2
          obtain ⟨O2, hO2⟩ : ∃ O2, O ++ rowY (m : Int) rows t y = O2 := ⟨_, rfl⟩
          have hstY2 : O ++ rowY (m : Int) rows t (y + 1) = O2 ++ rowX (m : Int) rows t y m := by rw [hstY, ← List.append_assoc, hO2]
          have hO2l : O2.length ≤ 400 := by
            rw [← hO2, List.length_append]
            have : y * m ≤ 6 * 6 := Nat.mul_le_mul (by omega) hm6
            omega
          rw [hO2] at hO
          have HST2 := Lib.hid hstY2
          have HO := Lib.hid hO
          clear hstY hyl hO2 hstY2 hO
          go_wp2_with fail
          go_loopw [27, 5] (fun e27 e5 wr => ∃ (x q cq : Nat) (D : Option Addr), x ≤ m ∧ e27 = .int .i64 x ∧ e5 = .slice D q cq ∧ wr.ownsRow w1.heap.size 3 1 (.slice D q cq) q (vI (O2 ++ rowX (m : Int) rows t y x)) ∧ Below w1.heap.size w1 wr) (fun e27 _ _ => m - (intOf e27).toNat)
          case atStart => exact ⟨0, q, cq, D, Nat.zero_le _, rfl, rfl, by simpa [rowX] using HO.out, hb⟩
          case round =>
            clear HO hb b0 b1 hgw
            obtain ⟨x, q, cq, D, hx, rfl, rfl, hO, hb⟩ := hrel
            have hB := HB1.out.below hb
            have b0 : wr.cell? ⟨w.heap.size, 0, none⟩ = some (.int .i64 (m : Int)) := by simpa using hB.cell 0
            have b1 : wr.cell? ⟨w.heap.size, 1, none⟩ = some (.slice A n c) := by simpa using hB.cell 1
            have hgw := hB.lt
            clear hB
            have hql : (O2 ++ rowX (m : Int) rows t y x).length = q := by have := own_len hO; rw [vI_length] at this; omega
            have hxl := (rowX_msk H36.out t y x).2
            rw [List.length_append] at hql
            have hq500 : q ≤ 500 := by omega
            by_cases hlx : x < m
            · have hx0 : (0 : Int) ≤ (x : Int) := by omega
              have hx1 : (x : Int) < (m : Int) := by omega
              obtain ⟨r, hmc⟩ : ∃ r, mcV (m : Int) rows (mv t (x : Int) (y : Int)) 0 = r := ⟨_, rfl⟩
              have hstX : O2 ++ rowX (m : Int) rows t y (x + 1) = (O2 ++ rowX (m : Int) rows t y x) ++ optL r := by
                show O2 ++ (_ ++ plAt _ _ _ _ _) = _
                unfold plAt
                rw [hmc, List.append_assoc]
              obtain ⟨O3, hO3⟩ : ∃ O3, O2 ++ rowX (m : Int) rows t y x = O3 := ⟨_, rfl⟩
              rw [hO3] at hstX hO
              have HST3 := Lib.hid hstX
              have HO := Lib.hid hO
              have HMC := Lib.hid hmc
              have HSM : Hid (∀ d ∈ t, small d) := fun d hd => by have := HFT.out.2 d hd; unfold small; omega
              have HSV : Hid (∀ d ∈ mv t (x : Int) (y : Int), small d) := mv_small HFT.out.2 (by omega) (by omega)
              have hm8 : m1 ≤ 8 := by have := HFT.out.1.2; have := HL1.out; omega
              clear hstX hO hmc hO3 hql hxl
              go_wp2_with fail
              refine wp_region_rg 11 rfl (by kernel_rfl) ?_
              (refine rgT (i := 0) (v := ?_) rfl rfl (by kernel_rfl) (by kernel_rfl) (by kernel_rfl) (by rfl) (fun w' hcw => ?_) ?_; rotate_left; ((try dsimp only at hcw); have hbc := hcw.cells; go_simp; first | done | with_reducible rfl); simp only [List.setIfInBounds_toArray, List.set_cons_zero, List.set_cons_succ])
              (refine rgT (i := 1) (v := ?_) rfl rfl (by kernel_rfl) (by kernel_rfl) (by kernel_rfl) (by rfl) (fun w' hcw => ?_) ?_; rotate_left; ((try dsimp only at hcw); have hbc := hcw.cells; go_simp; first | done | with_reducible rfl); simp only [List.setIfInBounds_toArray, List.set_cons_zero, List.set_cons_succ])
              (refine rgT (i := 2) (v := ?_) rfl rfl (by kernel_rfl) (by kernel_rfl) (by kernel_rfl) (by rfl) (fun w' hcw => ?_) ?_; rotate_left; ((try dsimp only at hcw); have hbc := hcw.cells; go_simp; first | done | with_reducible rfl); simp only [List.setIfInBounds_toArray, List.set_cons_zero, List.set_cons_succ])
              (refine rgT (i := 3) (v := ?_) rfl rfl (by kernel_rfl) (by kernel_rfl) (by kernel_rfl) (by rfl) (fun w' hcw => ?_) ?_; rotate_left; ((try dsimp only at hcw); have hbc := hcw.cells; go_simp; first | done | with_reducible rfl); simp only [List.setIfInBounds_toArray, List.set_cons_zero, List.set_cons_succ])
              refine rgK_one (i := 4) (by kernel_rfl) rfl rfl (fun u1 hc1 he1 K hK => ?_)
              go_simp
              refine (moved_i C1 m1 k1 t (x : Int) (y : Int) _ ((HRT.out.below hb).below hc1) HL1.out (by omega) HSM.out (by omega) (by omega)).mono ?_
              rintro e u2 ⟨E, q2, cE, rfl, hoM, hbM⟩
              have hq2 : (mv t (x : Int) (y : Int)).length = q2 := by have := own_len hoM; rw [vC_length] at this; omega
              have hc2 : Below wr.heap.size wr u2 := bel_trans hc1 hbM
              refine hK _ _ hc2 ?_
              clear hK K
              have HRM := Lib.hid (Rd.of_own hoM)
              have HQ2 := Lib.hid hq2
              have hq28 : q2 ≤ 8 := by rw [mv_len] at hq2; have := HL1.out; omega
              clear hoM hq2
              refine rgK_one (i := 5) (by kernel_rfl) rfl rfl (fun u3 hc3 he3 K hK => ?_)
              go_simp
              refine (MaskOfCells_i (m : Int) A E n c q2 cE rows (mv t (x : Int) (y : Int)) _ ((HR1.out.below hb).below hc3) HL.out HV.out (HRM.out.below he3) HQ2.out (by omega) HSV.out).mono ?_
              rw [HMC.out]
              rintro e u4 ⟨rfl, hb4⟩
              have hc4 : Below wr.heap.size wr u4 := bel_trans hc3 hb4
              refine hK _ _ hc4 ?_
              clear hK K
              cases r with
              | none =>
                simp only [mcR]
                (refine rgT (i := 6) (v := ?_) rfl rfl (by kernel_rfl) (by kernel_rfl) (by kernel_rfl) (by rfl) (fun w' hcw => ?_) ?_; rotate_left; ((try dsimp only at hcw); have hbc := hcw.cells; go_simp; first | done | with_reducible rfl); simp only [List.setIfInBounds_toArray, List.set_cons_zero, List.set_cons_succ])
                (refine rgT (i := 7) (v := ?_) rfl rfl (by kernel_rfl) (by kernel_rfl) (by kernel_rfl) (by rfl) (fun w' hcw => ?_) ?_; rotate_left; ((try dsimp only at hcw); have hbc := hcw.cells; go_simp; first | done | with_reducible rfl); simp only [List.setIfInBounds_toArray, List.set_cons_zero, List.set_cons_succ])
                (refine rgT (i := 8) (v := ?_) rfl rfl (by kernel_rfl) (by kernel_rfl) (by kernel_rfl) (by rfl) (fun w' hcw => ?_) ?_; rotate_left; ((try dsimp only at hcw); have hbc := hcw.cells; go_simp; first | done | with_reducible rfl); simp only [List.setIfInBounds_toArray, List.set_cons_zero, List.set_cons_succ])
                (refine rgT (i := 9) (v := ?_) rfl rfl (by kernel_rfl) (by kernel_rfl) (by kernel_rfl) (by rfl) (fun w' hcw => ?_) ?_; rotate_left; ((try dsimp only at hcw); have hbc := hcw.cells; go_simp; first | done | with_reducible rfl); simp only [List.setIfInBounds_toArray, List.set_cons_zero, List.set_cons_succ])
                (refine rgT (i := 10) (v := ?_) rfl rfl (by kernel_rfl) (by kernel_rfl) (by kernel_rfl) (by rfl) (fun w' hcw => ?_) ?_; rotate_left; ((try dsimp only at hcw); have hbc := hcw.cells; go_simp; first | done | with_reducible rfl); simp only [List.setIfInBounds_toArray, List.set_cons_zero, List.set_cons_succ])
                refine ⟨by kernel_rfl, fun wz hcz hez => NoPanic.normal ?_⟩
                go_wp2_with fail
                exact ⟨⟨x + 1, q, cq, D, by omega, by go_num, rfl, by rw [HST3.out]; simpa [optL] using own_keep HO.out hcz, bel_trans hb hcz⟩, by simp [intOf]; omega⟩
              | some v =>
                simp only [mcR]
                (refine rgT (i := 6) (v := ?_) rfl rfl (by kernel_rfl) (by kernel_rfl) (by kernel_rfl) (by rfl) (fun w' hcw => ?_) ?_; rotate_left; ((try dsimp only at hcw); have hbc := hcw.cells; go_simp; first | done | with_reducible rfl); simp only [List.setIfInBounds_toArray, List.set_cons_zero, List.set_cons_succ])
                (refine rgT (i := 7) (v := ?_) rfl rfl (by kernel_rfl) (by kernel_rfl) (by kernel_rfl) (by rfl) (fun w' hcw => ?_) ?_; rotate_left; ((try dsimp only at hcw); have hbc := hcw.cells; go_simp; first | done | with_reducible rfl); simp only [List.setIfInBounds_toArray, List.set_cons_zero, List.set_cons_succ])
                (refine rgT (i := 8) (v := ?_) rfl rfl (by kernel_rfl) (by kernel_rfl) (by kernel_rfl) (by rfl) (fun w' hcw => ?_) ?_; rotate_left; ((try dsimp only at hcw); have hbc := hcw.cells; go_simp; first | done | with_reducible rfl); simp only [List.setIfInBounds_toArray, List.set_cons_zero, List.set_cons_succ])
                (refine rgT (i := 9) (v := ?_) rfl rfl (by kernel_rfl) (by kernel_rfl) (by kernel_rfl) (by rfl) (fun w' hcw => ?_) ?_; rotate_left; ((try dsimp only at hcw); have hbc := hcw.cells; go_simp; first | done | with_reducible rfl); simp only [List.setIfInBounds_toArray, List.set_cons_zero, List.set_cons_succ])
                (refine rgT (i := 10) (v := ?_) rfl rfl (by kernel_rfl) (by kernel_rfl) (by kernel_rfl) (by rfl) (fun w' hcw => ?_) ?_; rotate_left; ((try dsimp only at hcw); have hbc := hcw.cells; go_simp; first | done | with_reducible rfl); simp only [List.setIfInBounds_toArray, List.set_cons_zero, List.set_cons_succ])
                refine ⟨by kernel_rfl, fun wz hcz hez => NoPanic.normal ?_⟩
                have HOZ := Lib.hid (own_keep HO.out hcz)
                have hbz := bel_trans hb hcz
                have hzz := hbz.size
                clear hcz hez hc4 hb4 hc3 he3 hc2 hbM hc1 he1 b0 b1 hgw
                go_wp2_with (at_builtin; go_must (refine app_I _ rfl _ _ rfl w1.heap.size _ _ _ _ rfl (HOZ.out.alloc _) _ _ _ [(v : Int)] rfl (rd_newI _ _ _) rfl (by omega) (by simp; omega) ?_); intro D2 cp2 w8 ho8 hg8 hat8; have HO8 := Lib.hid ho8; have HG8 := Lib.hid hg8; clear ho8 hg8 hat8)
                exact ⟨⟨x + 1, q + 1, cp2, D2, by omega, by go_num, rfl, by rw [HST3.out]; exact HO8.out, bel_app (bel_alloc hbz _) HG8.out (fun g' hg1 => ((own_lt HOZ.out) g' hg1).1)⟩, by simp [intOf]; omega⟩
            · obtain rfl : x = m := by omega
              rw [← HST2.out] at hO
              have HO := Lib.hid hO
              have hx1 : ¬ (x : Int) < (x : Int) := by omega
              clear hO hql hxl
              go_wp2_with fail
              exact ⟨⟨y + 1, q, cq, D, by omega, by go_num, rfl, HO.out, hb⟩, by simp [intOf]; omega⟩
        · obtain rfl : y = n := by omega
          rw [← HST.out] at hO
          have HO := Lib.hid hO
          have hy1 : ¬ (y : Int) < (y : Int) := by omega
          clear hO
          go_wp2_with fail
          exact ⟨⟨i + 1, q, cq, D, by omega, by go_num, rfl, HO.out, hb⟩, by simp [intOf]; omega⟩
    · obtain rfl : i = q0 := by omega
      have hql : (rawTo (m : Int) rows F i).length = q := by have := own_len hO; rw [vI_length] at this; omega
      have hol2 := (rawTo_msk H36.out F i).2
      have HN : Hid (plV (m : Int) rows xs = ord (rawTo (m : Int) rows F i)) := by show _ = _; rw [HPV.out, HFL.out]
      have HO := Lib.hid hO
      have HQL := Lib.hid hql
      have hq3 : q ≤ 288 := by omega
      have hi1 : ¬ (i : Int) < (i : Int) := by omega
      clear hO hql hol2
      go_wp2_with fail
      refine (ordered_i D q cq (rawTo (m : Int) rows F i) _ (Rd.of_own HO.out) HQL.out (by omega)).mono ?_
      rw [← HN.out]
      rintro e w2 ⟨E, q2, c2, rfl, hO2, hb2⟩
      have HO2 := Lib.hid hO2
      have hb02 := bel_trans hbw1 hb
      have hbz := hb02.size
      clear hO2
      go_wp2_with fail
      go_ret
      exact ⟨E, q2, c2, rfl, own_base HO2.out hbz, bel_trans hb02 hb2⟩
theorem pcs_at {P : List (List C)} (h : pcs P = true) : P.length ≤ 5 ∧ ∀ f ∈ P, isShape f = true := by
  refine ⟨(pcs_small h).1, ?_⟩
  unfold pcs at h
  simp only [Bool.and_eq_true, List.all_eq_true] at h
  exact h.1
theorem isProblem_i (W : Int) (A B : Option Addr) (n c q cb : Nat) (rows : List Int) (hs : List H) (P : List (List C)) (w : World) (hr : Rd w A (vI rows)) (hl : rows.length = n) (hp : RdP w B q hs P) (hq : q ≤ 1048576) (hm : totC P ≤ 1048576) :
    Calls Tryz.prog 45 #[.agg #[.int .i64 W, .slice A n c], .slice B q cb] w (Ret w (.bool (isReg W rows && pcs P))) := by
  have HL := Lib.hid hl
  have HR := Lib.hid (hr.alloc (.cells #[.int .i64 W, .slice A n c] 29))
  have HP := Lib.hid (hp.alloc (.cells #[.int .i64 W, .slice A n c] 29))
  have HM := Lib.hid hm
  clear hl hr hp hm
  cases hv : isReg W rows with
  | false =>
    have HV := Lib.hid hv
    clear hv
    go_enter Tryz.func45, Tryz.ntmps45
    go_wp2_with fail
    refine (IsRegion_i _ _ _ _ rows _ HR.out HL.out).mono ?_
    rw [HV.out]
    rintro e w1 ⟨rfl, hb1⟩
    go_wp2_with fail
    go_ret
    exact ⟨rfl, (by (repeat (first | with_reducible exact Below.refl _ _ | with_reducible assumption | with_reducible apply bel_alloc | with_reducible apply bel_drew | with_reducible apply bel_drewN | ((with_reducible refine bel_set ?_ ?_); rotate_left; (simp <;> omega)) | (with_reducible refine bel_trans ?_ (by with_reducible assumption)))))⟩
  | true =>
    have HV := Lib.hid hv
    clear hv
    go_enter Tryz.func45, Tryz.ntmps45
    go_wp2_with fail
    refine (IsRegion_i _ _ _ _ rows _ HR.out HL.out).mono ?_
    rw [HV.out]
    rintro e w1 ⟨rfl, hb1⟩
    go_wp2_with fail
    refine (ArePieces_i B q cb hs P _ (HP.out.below hb1) hq HM.out).mono ?_
    rintro e w2 ⟨rfl, hb2⟩
    go_wp2_with fail
    go_ret
    exact ⟨by simp, (by (repeat (first | with_reducible exact Below.refl _ _ | with_reducible assumption | with_reducible apply bel_alloc | with_reducible apply bel_drew | with_reducible apply bel_drewN | ((with_reducible refine bel_set ?_ ?_); rotate_left; (simp <;> omega)) | (with_reducible refine bel_trans ?_ (by with_reducible assumption)))))⟩
set_option maxHeartbeats 1600000 in
theorem all_i (W : Int) (A B : Option Addr) (n c q cb : Nat) (rows : List Int) (hs : List H) (P : List (List C)) (w : World) (hr : Rd w A (vI rows)) (hl : rows.length = n) (hv : isReg W rows = true) (hp : RdP w B q hs P) (hpc : pcs P = true) :
    Calls Tryz.prog 51 #[.agg #[.int .i64 W, .slice A n c], .slice B q cb] w (RetS w 3 1 (vI (allV W rows P))) := by
  obtain ⟨hq5, hsh⟩ := pcs_at hpc
  rw [hp.flen] at hq5
  have hN : allV W rows P = ord (catTo W rows P q) := by unfold allV; rw [ord_eq, hp.flen]
  have HN := Lib.hid hN
  have HSH := Lib.hid hsh
  have HL := Lib.hid hl
  have HV := Lib.hid hv
  have HR := Lib.hid (hr.alloc (.cells #[.int .i64 W, .slice A n c] 29))
  have HP := Lib.hid (hp.alloc (.cells #[.int .i64 W, .slice A n c] 29))
  have HB1 := Lib.hid (Blk.new w 29 #[.int .i64 W, .slice A n c])
  have hbw1 : Below w.heap.size w (w.alloc (.cells #[.int .i64 W, .slice A n c] 29)) := bel_alloc (Below.refl _ _) _
  clear hl hr hv hp hN hsh hpc
  go_enter Tryz.func51, Tryz.ntmps51
  go_wp2_with fail
  obtain ⟨w1, hw1⟩ : ∃ w1, w.alloc (.cells #[.int .i64 W, .slice A n c] 29) = w1 := ⟨_, rfl⟩
  rw [hw1] at HR HP HB1 hbw1 ⊢
  clear hw1
  go_loopw [10, 5] (fun e10 e5 wr => ∃ (i k cq : Nat) (D : Option Addr), i ≤ q ∧ e10 = .int .i64 i ∧ e5 = .slice D k cq ∧ wr.ownsRow w1.heap.size 3 1 (.slice D k cq) k (vI (catTo W rows P i)) ∧ Below w1.heap.size w1 wr) (fun e10 _ _ => q - (intOf e10).toNat)
  case atStart => exact ⟨0, 0, 0, none, Nat.zero_le _, rfl, rfl, own_nil _ _ _ _, Below.refl _ _⟩
  case round =>
    obtain ⟨i, k, cq, D, hi, rfl, rfl, hO, hb⟩ := hrel
    have hkl : (catTo W rows P i).length = k := by have := own_len hO; rw [vI_length] at this; omega
    have hcl := (catTo_msk W rows P i).2
    have hB := HB1.out.below hb
    have b0 : wr.cell? ⟨w.heap.size, 0, none⟩ = some (.int .i64 W) := by simpa using hB.cell 0
    have b1 : wr.cell? ⟨w.heap.size, 1, none⟩ = some (.slice A n c) := by simpa using hB.cell 1
    have hgw := hB.lt
    have hk : k ≤ 1440 := by omega
    have HKL := Lib.hid hkl
    clear hB hkl hcl
    by_cases hlt : i < q
    · have hi0 : (0 : Int) ≤ (i : Int) := by omega
      have hi1 : (i : Int) < (q : Int) := by omega
      obtain ⟨x, f, g, off, _, hfx, hBe, hg, d1, l1, r1⟩ := (HP.out.below hb).at_ hlt
      have hfs := HSH.out f (List.mem_of_getElem? hfx)
      have hst : catTo W rows P (i + 1) = catTo W rows P i ++ plV W rows f := by
        show _ ++ plV W rows (P.getD i []) = _
        rw [List.getD_eq_getElem?_getD, hfx, Option.getD_some]
      obtain ⟨C1, m1, k1⟩ := x
      have HFS := Lib.hid hfs
      have HR1 := Lib.hid r1
      have HL1 := Lib.hid l1
      have HST := Lib.hid hst
      have HO := Lib.hid hO
      have hpl := plV_len W rows f
      dsimp only at d1
      subst hBe
      clear hfx hst hO r1 l1 hfs
      go_wp2_with fail
      refine (placements_i W A C1 n c m1 k1 rows f _ (HR.out.below hb) HL.out HV.out HR1.out HL1.out HFS.out).mono ?_
      rintro e w2 ⟨E, q2, c2, rfl, hO2, hb2⟩
      have hq2 : (plV W rows f).length = q2 := by have := own_len hO2; rw [vI_length] at this; omega
      have HQ2 := Lib.hid hq2
      have HR2 := Lib.hid (Rd.of_own hO2)
      have HOK := Lib.hid (own_keep HO.out hb2)
      have hb02 := bel_trans hb hb2
      have hbz := hb02.size
      have hq3 : q2 ≤ 288 := by omega
      clear hO2 hq2 hpl d1 b0 b1 hgw
      go_wp2_with (at_builtin; go_must (refine app_I _ rfl _ _ rfl w1.heap.size _ _ _ _ rfl HOK.out _ _ _ (plV W rows f) rfl HR2.out HQ2.out (by omega) (by omega) ?_); intro D2 cp2 w8 ho8 hg8 hat8; have HO8 := Lib.hid ho8; have HG8 := Lib.hid hg8; clear ho8 hg8 hat8)
      exact ⟨⟨i + 1, k + q2, cp2, D2, by omega, by go_num, rfl, by rw [HST.out]; exact HO8.out, bel_app hb02 HG8.out (fun g' hg1 => ((own_lt HOK.out) g' hg1).1)⟩, by simp [intOf]; omega⟩
    · obtain rfl : i = q := by omega
      have HO := Lib.hid hO
      have hi1 : ¬ (i : Int) < (i : Int) := by omega
      clear hO
      go_wp2_with fail
      refine (ordered_i D k cq (catTo W rows P i) _ (Rd.of_own HO.out) HKL.out (by omega)).mono ?_
      rw [← HN.out]
      rintro e w2 ⟨E, q2, c2, rfl, hO2, hb2⟩
      have HO2 := Lib.hid hO2
      have hb02 := bel_trans hbw1 hb
      have hbz := hb02.size
      clear hO2
      go_wp2_with fail
      go_ret
      exact ⟨E, q2, c2, rfl, own_base HO2.out hbz, bel_trans hb02 hb2⟩
end Go.Proofs.YteelmhmdnljjnaaGreat
