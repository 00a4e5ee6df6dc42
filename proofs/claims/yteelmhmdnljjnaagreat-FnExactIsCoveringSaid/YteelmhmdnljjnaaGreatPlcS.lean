/- The placements of a shape, of all pieces, in a region: the reference. -/
import Derived.Test.YteelmhmdnljjnaaGreatMcs
import Derived.Test.YteelmhmdnljjnaaGreatOrS
import Derived.Test.YteelmhmdnljjnaaGreatPut7
import Derived.Test.YteelmhmdnljjnaaGreatQtail
import Derived.Test.YteelmhmdnljjnaaGreatPieces
import Derived.Outline
import Derived.WalkLawsBesides
import Derived.WalkSpells
import Derived.BigQuiet
import Derived.Deep.QuietTactic
import Derived.Deep.RegionHeld3
import Derived.Deep.RegionWith
import Derived.Deep.DeepCutAuto
import Derived.Deep.CutBlock
import Derived.Deep.DrawnRows
namespace Go.Proofs.YteelmhmdnljjnaaGreat
open Go.RowKit
set_option linter.unusedVariables false
attribute [local go_sem ↓] Go.wp_at_zero Go.wp_at_succ

theorem mv_smallS {t : List C} (h : ∀ c ∈ t, (0 ≤ c.1 ∧ c.1 ≤ 14) ∧ (0 ≤ c.2 ∧ c.2 ≤ 14)) {x y : Nat} (hx : x ≤ 6) (hy : y ≤ 6) : ∀ d ∈ mv t (x : Int) (y : Int), small d := by
  intro d hd
  rw [mv_mem] at hd
  have := h _ hd
  simp only at this
  unfold small
  omega
set_option maxRecDepth 100000 in
set_option maxHeartbeats 6400000 in
theorem PlacementsOf_s (W : Int) (A B : Option Addr) (n c k cb : Nat) (rows : List Int) (xs : List C) (w : World) (hr : Rd w A (vI rows)) (hl : rows.length = n) (hv : isReg W rows = true) (hrx : Rd w B (vC xs)) (hlx : xs.length = k) (hs : isShape xs = true) :
    Calls Tryz.prog 42 #[.agg #[.int .i64 W, .slice A n c], .slice B k cb] w (RetO w w.heap.size 3 1 (vI (plV W rows xs))) := by
  have hv0 := hv
  have hPV : plV W rows xs = putAll (rawTo W rows (orV xs) (orV xs).length) := by unfold plV; rw [if_pos hv]; rfl
  obtain ⟨m, rfl, hm1, hm6, hn1, hn6, hrow⟩ := isReg_yes hv
  have h36 : m * rows.length ≤ 6 * 6 := Nat.mul_le_mul hm6 hn6
  have hmt : ((m : Int)).toNat = m := Int.toNat_natCast _
  have hfine := orV_fine (s := xs)
  have hol := orV_len xs
  have HLX := Lib.hid hlx
  have HSX := Lib.hid hs
  obtain ⟨F, hF⟩ : ∃ F, orV xs = F := ⟨_, rfl⟩
  rw [hF] at hPV hfine hol
  have HF := Lib.hid hF
  have HPV := Lib.hid hPV
  have HFI := Lib.hid hfine
  have HL := Lib.hid hl
  have HV := Lib.hid hv0
  have HR := Lib.hid ((hr.alloc (.cells #[.int .i64 (m : Int), .slice A n c] 29)).alloc (.cells #[] 3))
  have HRX := Lib.hid ((hrx.alloc (.cells #[.int .i64 (m : Int), .slice A n c] 29)).alloc (.cells #[] 3))
  have H36 : Hid (m * rows.length ≤ 36) := h36
  have HMT := Lib.hid hmt
  have HI0 : Hid (((w.alloc (.cells #[.int .i64 (m : Int), .slice A n c] 29)).alloc (.cells #[] 3)).ownsRow w.heap.size 3 1 (.slice (some ⟨w.heap.size + 1, 0, none⟩) 0 0) 0 (vI [])) := by
    have h := own_new (w.alloc (.cells #[.int .i64 (m : Int), .slice A n c] 29)) 3 1 0 #[] rfl (by simp [maxLen]) (base := w.heap.size) (by simp)
    exact Lib.hid (by simpa [vI] using h)
  rw [hl] at hn1 hn6
  clear hl hr hrow hv hv0 hrx hlx hs h36 hmt hPV hfine hF
  go_enter Tryz.func42, Tryz.ntmps42
  go_wp2_with fail
  refine (OrientationsOf_s B k cb xs _ HRX.out HLX.out HSX.out).mono ?_
  rw [HF.out]
  rintro e w1 ⟨gA, q0, c0, hs, rfl, hO0, hb1⟩
  have HB1 := Lib.hid (((Blk.new w 29 #[.int .i64 (m : Int), .slice A n c]).alloc (.cells #[] 3)).below hb1)
  have HR1 := Lib.hid (HR.out.below hb1)
  have hbw1 : Below w.heap.size w w1 := bel_trans (bel_alloc (bel_alloc (Below.refl _ _) _) _) hb1
  have HI1 := Lib.hid (own_keep HI0.out hb1)
  have HRF := Lib.hid hO0.rd
  have HFL := Lib.hid hO0.flen
  have hq8 : q0 ≤ 8 := by have := hO0.flen; omega
  have hgA := (own_lt hO0.own gA rfl).2
  have HGR : Hid (∀ (i : Nat) x f, hs[i]? = some x → F[i]? = some f → ∀ g, ob x.1 = some g → g < w1.heap.size) := fun i x f h1 h2 g e => (hO0.row i x f h1 h2).lt g e
  clear hb1 hO0 HI0
  go_wp2_with fail
  go_loopw [7, 5] (fun e15 e5 wr => ∃ (i q cq g : Nat), i ≤ q0 ∧ e15 = .int .i64 i ∧ e5 = .slice (some ⟨g, 0, none⟩) q cq ∧ wr.ownsRow w.heap.size 3 1 (.slice (some ⟨g, 0, none⟩) q cq) q (vI (putAll (rawTo (m : Int) rows F i))) ∧ Below w1.heap.size w1 wr) (fun e15 _ _ => q0 - (intOf e15).toNat)
  case atStart => exact ⟨0, 0, 0, _, Nat.zero_le _, rfl, rfl, by simpa [rawTo, putAll] using HI1.out, Below.refl _ _⟩
  case round =>
    clear HI1
    obtain ⟨i, q, cq, gD, hi, rfl, rfl, hO, hb⟩ := hrel
    have hB := HB1.out.below hb
    have b0 : wr.cell? ⟨w.heap.size, 0, none⟩ = some (.int .i64 (m : Int)) := by simpa using hB.cell 0
    have b1 : wr.cell? ⟨w.heap.size, 1, none⟩ = some (.slice A n c) := by simpa using hB.cell 1
    have hgw := hB.lt
    clear hB
    by_cases hlt : i < q0
    · have hi0 : (0 : Int) ≤ (i : Int) := by omega
      have hi1 : (i : Int) < (q0 : Int) := by omega
      obtain ⟨x, t, gA', off, hsx, hfx, hAe, hg, d1, hrow⟩ := HRF.out.at_ hlt
      simp only [Option.some.injEq, Addr.mk.injEq, and_true] at hAe
      obtain ⟨rfl, rfl⟩ := hAe
      rw [Nat.zero_add] at d1
      have hft := HFI.out t (List.mem_of_getElem? hfx)
      have hgrt := HGR.out i x t hsx hfx
      have hstep : rawTo (m : Int) rows F (i + 1) = rawTo (m : Int) rows F i ++ rowY (m : Int) rows t n := by
        show _ ++ rowY _ _ (F.getD i []) rows.length = _
        rw [List.getD_eq_getElem?_getD, hfx, Option.getD_some, HL.out]
      have hol2 := (rawTo_msk H36.out F i).2
      obtain ⟨C1, m1, k1⟩ := x
      have hl1 : t.length = m1 := hrow.1
      obtain ⟨O, hOe⟩ : ∃ O, rawTo (m : Int) rows F i = O := ⟨_, rfl⟩
      rw [hOe] at hstep hO hol2
      have hrt : Rd w1 C1 (vC t) := hrow.2.1
      have HRT := Lib.hid hrt
      have HL1 := Lib.hid hl1
      have HFT := Lib.hid hft
      have HST := Lib.hid hstep
      have HO := Lib.hid hO
      have HGT := Lib.hid hgrt
      have hOl : O.length ≤ 288 := by omega
      dsimp only at d1
      have HD1 := Lib.hid d1
      have hm8 : m1 ≤ 8 := by have := hft.1.2; omega
      clear hsx hfx hrow hstep hO hl1 hft hOe hrt hol2 hgrt d1
      go_wp2_with fail
      refine (IsRegion_s _ _ _ _ rows _ (HR1.out.below hb) HL.out).mono ?_
      rw [HV.out]
      rintro e w2 ⟨rfl, hb2⟩
      have hb12 := bel_trans hb hb2
      have HO2 := Lib.hid (own_keep HO.out hb2)
      clear HO b0 b1 hgw
      go_wp2_with fail
      go_loopw [8, 5] (fun e22 e5 wr => ∃ (y q cq gD : Nat), y ≤ n ∧ e22 = .int .i64 y ∧ e5 = .slice (some ⟨gD, 0, none⟩) q cq ∧ wr.ownsRow w.heap.size 3 1 (.slice (some ⟨gD, 0, none⟩) q cq) q (vI (putAll (O ++ rowY (m : Int) rows t y))) ∧ Below w1.heap.size w1 wr) (fun e22 _ _ => n - (intOf e22).toNat)
      case atStart => exact ⟨0, q, cq, gD, Nat.zero_le _, rfl, rfl, by simpa [rowY] using HO2.out, hb12⟩
      case round =>
        clear HO2 hb hb2 hb12
        obtain ⟨y, q, cq, gD, hy, rfl, rfl, hO, hb⟩ := hrel
        have hB := HB1.out.below hb
        have b0 : wr.cell? ⟨w.heap.size, 0, none⟩ = some (.int .i64 (m : Int)) := by simpa using hB.cell 0
        have b1 : wr.cell? ⟨w.heap.size, 1, none⟩ = some (.slice A n c) := by simpa using hB.cell 1
        have hgw := hB.lt
        clear hB
        by_cases hly : y < n
        · have hy0 : (0 : Int) ≤ (y : Int) := by omega
          have hy1 : (y : Int) < (n : Int) := by omega
          have hstY : rowY (m : Int) rows t (y + 1) = rowY (m : Int) rows t y ++ rowX (m : Int) rows t y m := by show _ ++ rowX _ _ _ _ _ = _; rw [HMT.out]
          have hyl := (rowY_msk H36.out t y).2
          obtain ⟨O2, hO2⟩ : ∃ O2, O ++ rowY (m : Int) rows t y = O2 := ⟨_, rfl⟩
          have hstY2 : O ++ rowY (m : Int) rows t (y + 1) = O2 ++ rowX (m : Int) rows t y m := by rw [hstY, ← List.append_assoc, hO2]
          have hO2l : O2.length ≤ 400 := by
            rw [← hO2, List.length_append]
            have : y * m ≤ 6 * 6 := Nat.mul_le_mul (by omega) hm6
            omega
          rw [hO2] at hO
          have HST2 := Lib.hid hstY2
          have HO := Lib.hid hO
          clear hstY hyl hO2 hstY2 hO
          go_wp2_with fail
          go_loopw [9, 5] (fun e27 e5 wr => ∃ (x q cq gD : Nat), x ≤ m ∧ e27 = .int .i64 x ∧ e5 = .slice (some ⟨gD, 0, none⟩) q cq ∧ wr.ownsRow w.heap.size 3 1 (.slice (some ⟨gD, 0, none⟩) q cq) q (vI (putAll (O2 ++ rowX (m : Int) rows t y x))) ∧ Below w1.heap.size w1 wr) (fun e27 _ _ => m - (intOf e27).toNat)
          case atStart => exact ⟨0, q, cq, gD, Nat.zero_le _, rfl, rfl, by simpa [rowX] using HO.out, hb⟩
          case round =>
            clear HO hb b0 b1 hgw
            obtain ⟨x, q, cq, gD, hx, rfl, rfl, hO, hb⟩ := hrel
            have hB := HB1.out.below hb
            have b0 : wr.cell? ⟨w.heap.size, 0, none⟩ = some (.int .i64 (m : Int)) := by simpa using hB.cell 0
            have b1 : wr.cell? ⟨w.heap.size, 1, none⟩ = some (.slice A n c) := by simpa using hB.cell 1
            have hgw := hB.lt
            clear hB
            have hql : (putAll (O2 ++ rowX (m : Int) rows t y x)).length = q := by have := own_len hO; rw [vI_length] at this; omega
            have hpl := putAll_len (O2 ++ rowX (m : Int) rows t y x)
            have hxl := (rowX_msk H36.out t y x).2
            rw [List.length_append] at hpl
            have hq500 : q ≤ 500 := by omega
            by_cases hlx : x < m
            · have hx0 : (0 : Int) ≤ (x : Int) := by omega
              have hx1 : (x : Int) < (m : Int) := by omega
              obtain ⟨r, hmc⟩ : ∃ r, mcV (m : Int) rows (mv t (x : Int) (y : Int)) 0 = r := ⟨_, rfl⟩
              have hstX : O2 ++ rowX (m : Int) rows t y (x + 1) = (O2 ++ rowX (m : Int) rows t y x) ++ optL r := by
                show O2 ++ (_ ++ plAt _ _ _ _ _) = _
                unfold plAt
                rw [hmc, List.append_assoc]
              obtain ⟨O3, hO3⟩ : ∃ O3, O2 ++ rowX (m : Int) rows t y x = O3 := ⟨_, rfl⟩
              rw [hO3] at hstX hO
              have HST3 := Lib.hid hstX
              have HO := Lib.hid hO
              have HMC := Lib.hid hmc
              have HSV : Hid (∀ d ∈ mv t (x : Int) (y : Int), small d) := mv_smallS HFT.out.2 (by omega) (by omega)
              have HDI : Hid ((wr.alloc (.cells #[] 71)).ownsRow wr.heap.size 71 2 (.slice (some ⟨wr.heap.size, 0, none⟩) 0 0) 0 (vC ((mv t (x : Int) (y : Int)).take 0))) := by
                have h := own_new wr 71 2 0 #[] rfl (by simp [maxLen]) (Nat.le_refl wr.heap.size)
                exact Lib.hid (by simpa [vC] using h)
              have HWB : Hid (Below wr.heap.size wr (wr.alloc (.cells #[] 71))) := bel_alloc (Below.refl _ _) _
              clear hstX hO hmc hO3 hql hxl hpl
              go_wp2_with fail
              go_loopw [11, 10] (fun e11 e10 wq => ∃ (j cj : Nat) (E : Option Addr), j ≤ m1 ∧ e11 = .int .i64 j ∧ e10 = .slice E j cj ∧ wq.ownsRow wr.heap.size 71 2 (.slice E j cj) j (vC ((mv t (x : Int) (y : Int)).take j)) ∧ Below wr.heap.size wr wq) (fun e11 _ _ => m1 - (intOf e11).toNat)
              case atStart => exact ⟨0, 0, _, Nat.zero_le _, rfl, rfl, HDI.out, HWB.out⟩
              case round =>
                clear HDI HWB
                obtain ⟨j, cj, E, hj, rfl, rfl, hM, hbj⟩ := hrel
                have hb1j := bel_trans hb hbj
                have d1 := keep_below hb1j HD1.out
                have hgAj : gA < wr.heap.size := Nat.lt_of_lt_of_le hgA hb1j.size
                by_cases hlj : j < m1
                · have hjl : j < t.length := by rw [HL1.out]; exact hlj
                  have hj0 : (0 : Int) ≤ (j : Int) := by omega
                  have hj1 : (j : Int) < (m1 : Int) := by omega
                  obtain ⟨g, off, hA, hg0, d2, d3⟩ := RdC.at_ HRT.out hjl
                  have hg1 := HGT.out g (by rw [hA]; rfl)
                  have d2 := keep_below hb1j d2
                  have d3 := keep_below hb1j d3
                  have hgj : g < wr.heap.size := Nat.lt_of_lt_of_le hg1 hb1j.size
                  have hbsz := hb.size
                  have hgE : ¬ (some g = ob E) := fun e => by have := (own_lt hM g e.symm).1; omega
                  have hgAE : ¬ (some gA = ob E) := fun e => by have := (own_lt hM gA e.symm).1; omega
                  have hml : j < (mv t (x : Int) (y : Int)).length := by rw [mv_len]; exact hjl
                  have hst : (mv t (x : Int) (y : Int)).take (j + 1) = (mv t (x : Int) (y : Int)).take j ++ [(t[j].1 + (x : Int), t[j].2 + (y : Int))] := by
                    rw [List.take_succ_eq_append_getElem hml]
                    simp [mv]
                  have hsm := HFT.out.2 _ (List.getElem_mem hjl)
                  obtain ⟨p, hp⟩ : ∃ p, t[j].1 = p := ⟨_, rfl⟩
                  obtain ⟨r', hr'⟩ : ∃ r', t[j].2 = r' := ⟨_, rfl⟩
                  rw [hp, hr'] at hst hsm
                  rw [hp] at d2
                  rw [hr'] at d3
                  have e1 : IntKind.i64.wrap (p + (x : Int)) = p + (x : Int) := Go.IntWalk.i64_in _ (by omega)
                  have e2 : IntKind.i64.wrap (r' + (y : Int)) = r' + (y : Int) := Go.IntWalk.i64_in _ (by omega)
                  have HSTJ := Lib.hid hst
                  have HM := Lib.hid hM
                  have hbs := hbj.size
                  subst hA
                  clear hst hM hp hr' hsm hml hg0 b0 b1 hgw
                  go_wp2_with fail
                  (refine wp_region_tailN (C := Gr wr E) 22 (by kernel_rfl) (by kernel_rfl) (Gr.drawn _ _) (fun _ _ h k => h.ext k) ?_; simp only [List.take_succ_cons, List.take_zero, List.drop_succ_cons, List.drop_zero]; (repeat (first | (refine headSkip (by rfl) rfl ?_; simp only [List.setIfInBounds_toArray, List.set_cons_zero, List.set_cons_succ]) | (refine headV (v := ?_) (by rfl) rfl (fun w' hcw => ?_) ?_; rotate_left; ((try dsimp only at hcw); have hbc := hcw.cells; go_simp; first | done | with_reducible rfl | fail); simp only [List.setIfInBounds_toArray, List.set_cons_zero, List.set_cons_succ]))); unfold wpHead)
                  (refine tailK (by rfl) (fun w3 hc3 he3 K hK => ?_); go_simp; refine hK _ _ (hc3.ext (by (repeat (first | with_reducible exact Below.refl _ _ | with_reducible assumption | with_reducible apply bel_alloc | with_reducible apply bel_drew | with_reducible apply bel_drewN | ((with_reducible refine bel_set ?_ ?_); rotate_left; (simp <;> omega)) | (with_reducible refine bel_trans ?_ (by with_reducible assumption)))))) ?_; clear hK K)
                  (refine tailK (by rfl) (fun w4 hc4 he4 K hK => ?_); refine wpC _ _ _ rfl _ E j cj ((mv t (x : Int) (y : Int)).take j) rfl (own_keep ((own_keep HM.out he3).alloc _) he4) _ 1 1 [(p + (x : Int), r' + (y : Int))] rfl (Rd.below (rd_newC _ _ _ _) he4) rfl (by omega) (by have h2 := he3.size; have h3 := he4.size; simp at h3; omega) ?_; intro A2 c2 w5 hown5 hg5 _; refine hK _ _ (Gr.trans hc4 hg5) ?_; clear hK K; simp only [Act.put, List.setIfInBounds_toArray, List.set_cons_zero, List.set_cons_succ])
                  (refine tailK (by rfl) (fun w6 hc6 he6 K hK => ?_); go_simp; refine hK _ _ (hc6) ?_; clear hK K)
                  (refine fun w7 hc7 he7 => NoPanic.normal ?_)
                  have hb4 := bel_trans (bel_alloc (bel_trans hbj he3) _) he4
                  have hb5 := bel_app hb4 hg5 (fun g' hg' => ((own_lt HM.out) g' hg').1)
                  have HO3 := Lib.hid (own_keep (own_keep hown5 he6) he7)
                  clear hown5
                  go_wp2
                  exact ⟨⟨j + 1, c2, A2, by omega, by go_num, rfl, by rw [HSTJ.out]; exact HO3.out, bel_trans (bel_trans hb5 he6) he7⟩, by simp [intOf]; omega⟩
                · obtain rfl : j = m1 := by omega
                  have hmt2 : (mv t (x : Int) (y : Int)).take j = mv t (x : Int) (y : Int) := List.take_of_length_le (by rw [mv_len, HL1.out]; omega)
                  rw [hmt2] at hM
                  have hmvl : (mv t (x : Int) (y : Int)).length = j := by rw [mv_len]; exact HL1.out
                  have HMVL := Lib.hid hmvl
                  have HRM := Lib.hid (Rd.of_own hM)
                  have hj1 : ¬ (j : Int) < (j : Int) := by omega
                  have c0 := keep_below hbj b0
                  have c1 := keep_below hbj b1
                  have hgwj : w.heap.size < wr.heap.size := Nat.lt_of_lt_of_le hgw hbj.size
                  have HOJ := Lib.hid (own_keep HO.out hbj)
                  clear hM hmt2 hmvl b0 b1 hgw
                  go_wp2_with fail
                  refine (MaskOfCells_s (m : Int) A E n c j cj rows (mv t (x : Int) (y : Int)) _ (HR1.out.below hb1j) HL.out HV.out HRM.out HMVL.out (by omega) HSV.out).mono ?_
                  rw [HMC.out]
                  rintro e w4 ⟨rfl, hb4⟩
                  have HOK := Lib.hid (own_keep HOJ.out hb4)
                  have hb14 := bel_trans hb1j hb4
                  clear c0 c1 hgwj d1 HRM
                  cases r with
                  | none =>
                    simp only [mcR]
                    go_wp2_with fail
                    exact ⟨⟨x + 1, q, cq, gD, by omega, by go_num, rfl, by rw [HST3.out]; simpa [optL] using HOK.out, hb14⟩, by simp [intOf]; omega⟩
                  | some v =>
                    simp only [mcR]
                    have hbzz : w.heap.size ≤ w4.heap.size := (bel_trans hbw1 hb14).size
                    go_wp2_with fail
                    refine (l7Put_s gD q cq (putAll O3) (v : Int) w.heap.size _ HOK.out hbzz (by omega)).mono ?_
                    rintro e w5 ⟨g5, n5, c5, rfl, hO5, hb5⟩
                    have HO5 := Lib.hid hO5
                    have HP5 : Hid (putAll (O3 ++ [(v : Int)]) = putI (putAll O3) (v : Int)) := putAll_snoc _ _
                    clear hO5
                    go_wp2_with fail
                    exact ⟨⟨x + 1, n5, c5, g5, by omega, by go_num, rfl, by rw [HST3.out]; show World.ownsRow _ _ _ _ _ _ (vI (putAll (O3 ++ [(v : Int)]))); rw [HP5.out]; exact HO5.out, bel_trans hb14 hb5⟩, by simp [intOf]; omega⟩
            · obtain rfl : x = m := by omega
              rw [← HST2.out] at hO
              have HO := Lib.hid hO
              have hx1 : ¬ (x : Int) < (x : Int) := by omega
              clear hO hql hxl hpl
              go_wp2_with fail
              exact ⟨⟨y + 1, q, cq, gD, by omega, by go_num, rfl, HO.out, hb⟩, by simp [intOf]; omega⟩
        · obtain rfl : y = n := by omega
          rw [← HST.out] at hO
          have HO := Lib.hid hO
          have hy1 : ¬ (y : Int) < (y : Int) := by omega
          clear hO
          go_wp2_with fail
          exact ⟨⟨i + 1, q, cq, gD, by omega, by go_num, rfl, HO.out, hb⟩, by simp [intOf]; omega⟩
    · obtain rfl : i = q0 := by omega
      have HN : Hid (plV (m : Int) rows xs = putAll (rawTo (m : Int) rows F i)) := by show _ = _; rw [HPV.out, HFL.out]
      rw [← HN.out] at hO
      have HO := Lib.hid hO
      have hi1 : ¬ (i : Int) < (i : Int) := by omega
      clear hO
      go_wp2_with fail
      go_ret
      exact ⟨gD, q, cq, rfl, HO.out, bel_trans hbw1 hb⟩
theorem world_ltS {w : World} {a : Addr} {v : Value} (h : w.cell? a = some v) : a.block < w.heap.size := World.block_lt_of_cell? w a h
theorem putI_len (l : List Int) (n : Int) : (putI l n).length ≤ l.length + 1 := by
  unfold putI
  have := cutTo_le l n l.length
  split
  · omega
  · simp; omega
theorem pcs_atS {P : List (List C)} (h : pcs P = true) : P.length ≤ 5 ∧ ∀ f ∈ P, isShape f = true := by
  refine ⟨(pcs_small h).1, ?_⟩
  unfold pcs at h
  simp only [Bool.and_eq_true, List.all_eq_true] at h
  exact h.1
theorem foldl_take {β : Type} (f : β → Int → β) (b : β) (xs : List Int) (k : Nat) (hk : k < xs.length) : (xs.take (k + 1)).foldl f b = f ((xs.take k).foldl f b) xs[k] := by
  rw [List.take_succ_eq_append_getElem hk, List.foldl_append]; rfl
set_option maxHeartbeats 3200000 in
theorem AllPlacements_s (W : Int) (A B : Option Addr) (n c q cb : Nat) (rows : List Int) (hs : List H) (P : List (List C)) (w : World) (hr : Rd w A (vI rows)) (hl : rows.length = n) (hv : isReg W rows = true) (hp : RdP w B q hs P) (hpc : pcs P = true) :
    Calls Tryz.prog 50 #[.agg #[.int .i64 W, .slice A n c], .slice B q cb] w (RetO w w.heap.size 3 1 (vI (allV W rows P))) := by
  obtain ⟨hq5, hsh⟩ := pcs_atS hpc
  rw [hp.flen] at hq5
  have htc : totC P ≤ 1048576 := by have := (pcs_small hpc).2; omega
  have hN : allV W rows P = putAll (catTo W rows P q) := by unfold allV; rw [hp.flen]
  have HN := Lib.hid hN
  have HSH := Lib.hid hsh
  have HTC := Lib.hid htc
  have HPC := Lib.hid hpc
  have HL := Lib.hid hl
  have HV := Lib.hid hv
  have HR := Lib.hid ((hr.alloc (.cells #[.int .i64 W, .slice A n c] 29)).alloc (.cells #[] 3))
  have HP := Lib.hid ((hp.alloc (.cells #[.int .i64 W, .slice A n c] 29)).alloc (.cells #[] 3))
  have HB1 := Lib.hid ((Blk.new w 29 #[.int .i64 W, .slice A n c]).alloc (.cells #[] 3))
  have HI0 : Hid (((w.alloc (.cells #[.int .i64 W, .slice A n c] 29)).alloc (.cells #[] 3)).ownsRow w.heap.size 3 1 (.slice (some ⟨w.heap.size + 1, 0, none⟩) 0 0) 0 (vI [])) := by
    have h := own_new (w.alloc (.cells #[.int .i64 W, .slice A n c] 29)) 3 1 0 #[] rfl (by simp [maxLen]) (base := w.heap.size) (by simp)
    exact Lib.hid (by simpa [vI] using h)
  have hbw1 : Below w.heap.size w ((w.alloc (.cells #[.int .i64 W, .slice A n c] 29)).alloc (.cells #[] 3)) := bel_alloc (bel_alloc (Below.refl _ _) _) _
  clear hl hr hv hp hN hsh hpc htc
  go_enter Tryz.func50, Tryz.ntmps50
  go_wp2_with fail
  obtain ⟨w1, hw1⟩ : ∃ w1, (w.alloc (.cells #[.int .i64 W, .slice A n c] 29)).alloc (.cells #[] 3) = w1 := ⟨_, rfl⟩
  rw [hw1] at HR HP HB1 hbw1 HI0 ⊢
  clear hw1
  go_loopw [6, 5] (fun e6 e5 wr => ∃ (i k cq g : Nat), i ≤ q ∧ e6 = .int .i64 i ∧ e5 = .slice (some ⟨g, 0, none⟩) k cq ∧ wr.ownsRow w.heap.size 3 1 (.slice (some ⟨g, 0, none⟩) k cq) k (vI (putAll (catTo W rows P i))) ∧ Below w1.heap.size w1 wr) (fun e6 _ _ => q - (intOf e6).toNat)
  case atStart => exact ⟨0, 0, 0, _, Nat.zero_le _, rfl, rfl, by simpa [catTo, putAll] using HI0.out, Below.refl _ _⟩
  case round =>
    clear HI0
    obtain ⟨i, k, cq, g0, hi, rfl, rfl, hO, hb⟩ := hrel
    have hkl : (putAll (catTo W rows P i)).length = k := by have := own_len hO; rw [vI_length] at this; omega
    have hcl := (catTo_msk W rows P i).2
    have hpl := putAll_len (catTo W rows P i)
    have hk : k ≤ 1440 := by omega
    clear hkl hpl
    by_cases hlt : i < q
    · have hi0 : (0 : Int) ≤ (i : Int) := by omega
      have hi1 : (i : Int) < (q : Int) := by omega
      have HO := Lib.hid hO
      obtain ⟨x, f, g, off, _, hfx, hBe, hg0, d0, l1, r1⟩ := HP.out.at_ hlt
      have hfs := HSH.out f (List.mem_of_getElem? hfx)
      have hst : catTo W rows P (i + 1) = catTo W rows P i ++ plV W rows f := by
        show _ ++ plV W rows (P.getD i []) = _
        rw [List.getD_eq_getElem?_getD, hfx, Option.getD_some]
      obtain ⟨C1, m1, k1⟩ := x
      have HFS := Lib.hid hfs
      have HR1 := Lib.hid r1
      have HL1 := Lib.hid l1
      have HST := Lib.hid hst
      have hpl := plV_len W rows f
      dsimp only at d0
      have HD0 := Lib.hid d0
      subst hBe
      clear hfx hst hO r1 l1 hfs d0
      go_wp2_with fail
      refine (ArePieces_s _ q cb hs P _ (HP.out.below hb) (by omega) HTC.out).mono ?_
      rw [HPC.out]
      rintro e w2 ⟨rfl, hb2⟩
      have hb12 := bel_trans hb hb2
      have hB := HB1.out.below hb12
      have b0 : w2.cell? ⟨w.heap.size, 0, none⟩ = some (.int .i64 W) := by simpa using hB.cell 0
      have b1 : w2.cell? ⟨w.heap.size, 1, none⟩ = some (.slice A n c) := by simpa using hB.cell 1
      have hgw := hB.lt
      have d1 := keep_below hb12 HD0.out
      have hg2 : g < w2.heap.size := world_ltS d1
      have HO2 := Lib.hid (own_keep HO.out hb2)
      clear hB HO
      go_wp2_with fail
      (refine wp_region_tailN (C := ExC w2) 5 (by kernel_rfl) (by kernel_rfl) (ExC.drawn _) (fun _ _ h k => ExC.ext h k) ?_; simp only [List.take_succ_cons, List.take_zero, List.drop_succ_cons, List.drop_zero]; (repeat (first | (refine headSkip (by rfl) rfl ?_; simp only [List.setIfInBounds_toArray, List.set_cons_zero, List.set_cons_succ]) | (refine headV (v := ?_) (by rfl) rfl (fun w' hcw => ?_) ?_; rotate_left; ((try dsimp only at hcw); have hbc := hcw.cells; go_simp; first | done | with_reducible rfl | fail); simp only [List.setIfInBounds_toArray, List.set_cons_zero, List.set_cons_succ]))); unfold wpHead)
      refine tailK (by rfl) (fun u1 hc1 he1 K hK => ?_)
      go_simp
      refine (PlacementsOf_s W A C1 n c m1 k1 rows f _ (HR.out.below (bel_trans hb12 hc1)) HL.out HV.out (HR1.out.below (bel_trans hb12 hc1)) HL1.out HFS.out).mono ?_
      rintro e u2 ⟨gE, q2, c2, rfl, hOE, hbE⟩
      have hc2 := bel_trans hc1 hbE
      refine hK _ _ hc2 ?_
      clear hK K
      have hq2 : (plV W rows f).length = q2 := by have := own_len hOE; rw [vI_length] at this; omega
      have HQ2 := Lib.hid hq2
      have HRE := Lib.hid (Rd.of_own hOE)
      (refine tailK (by rfl) (fun u3 hc3 he3 K hK => ?_); go_simp; refine hK _ _ (hc3) ?_; clear hK K)
      (refine fun w4 hc4 he4 => NoPanic.normal ?_)
      have HR4 := Lib.hid ((HRE.out.below he3).below he4)
      have HO4 := Lib.hid (own_keep HO2.out hc4)
      have hb14 := bel_trans hb12 hc4
      have hq3 : q2 ≤ 288 := by omega
      clear hOE hq2 hpl d1 b0 b1 hgw hc3 he3 hc2 hbE hc1 he1 he4 HO2 HRE hg2 hc4
      go_wp2_with fail
      go_loopw [8, 5] (fun e8 e5 wr => ∃ (j k cq g : Nat), j ≤ q2 ∧ e8 = .int .i64 j ∧ e5 = .slice (some ⟨g, 0, none⟩) k cq ∧ wr.ownsRow w.heap.size 3 1 (.slice (some ⟨g, 0, none⟩) k cq) k (vI (((plV W rows f).take j).foldl putI (putAll (catTo W rows P i)))) ∧ k ≤ 1440 + j ∧ Below w4.heap.size w4 wr) (fun e8 _ _ => q2 - (intOf e8).toNat)
      case atStart => exact ⟨0, k, cq, _, Nat.zero_le _, rfl, rfl, by simpa using HO4.out, by omega, Below.refl _ _⟩
      case round =>
        clear HO4
        obtain ⟨j, k, cq, gO, hj, rfl, rfl, hO, hkk, hbj⟩ := hrel
        by_cases hlj : j < q2
        · have hjl : j < (plV W rows f).length := by rw [HQ2.out]; exact hlj
          have hj0 : (0 : Int) ≤ (j : Int) := by omega
          have hj1 : (j : Int) < (q2 : Int) := by omega
          obtain ⟨gR, oR, hA, hgR, d1⟩ := RdI.at_ (HR4.out.below hbj) hjl
          simp only [Option.some.injEq, Addr.mk.injEq, and_true] at hA
          obtain ⟨rfl, rfl⟩ := hA
          rw [Nat.zero_add] at d1
          have hst2 := foldl_take putI (putAll (catTo W rows P i)) (plV W rows f) j hjl
          obtain ⟨v, hv⟩ : ∃ v, (plV W rows f)[j] = v := ⟨_, rfl⟩
          obtain ⟨L, hL⟩ : ∃ L, ((plV W rows f).take j).foldl putI (putAll (catTo W rows P i)) = L := ⟨_, rfl⟩
          rw [hv] at d1 hst2
          rw [hL] at hst2 hO
          have hLk : L.length = k := by have := own_len hO; rw [vI_length] at this; omega
          have hpi := putI_len L v
          have HST2 := Lib.hid hst2
          have HO := Lib.hid hO
          have HPI := Lib.hid hpi
          have HLK := Lib.hid hLk
          have hbz := (bel_trans hbw1 (bel_trans hb14 hbj)).size
          clear hst2 hO hv hL hpi hLk
          go_wp2_with fail
          refine (l7Put_s gO k cq L v w.heap.size _ HO.out hbz (by omega)).mono ?_
          rintro e w5 ⟨g5, n5, c5, rfl, hO5, hb5⟩
          have hn5 : (putI L v).length = n5 := by have := own_len hO5; rw [vI_length] at this; omega
          have hn6 : n5 ≤ 1440 + (j + 1) := by have := HPI.out; have := HLK.out; omega
          have HO5 := Lib.hid hO5
          clear hO5 d1 hn5
          go_wp2_with fail
          exact ⟨⟨j + 1, n5, c5, g5, by omega, by go_num, rfl, by rw [HST2.out]; exact HO5.out, hn6, bel_trans hbj hb5⟩, by simp [intOf]; omega⟩
        · obtain rfl : j = q2 := by omega
          have he : ((plV W rows f).take j).foldl putI (putAll (catTo W rows P i)) = putAll (catTo W rows P (i + 1)) := by
            rw [HST.out, List.take_of_length_le (by rw [HQ2.out]; omega)]
            simp [putAll]
          rw [he] at hO
          have HO := Lib.hid hO
          have hj1 : ¬ (j : Int) < (j : Int) := by omega
          clear he hO
          go_wp2_with fail
          exact ⟨⟨i + 1, k, cq, gO, by omega, by go_num, rfl, HO.out, bel_trans hb14 hbj⟩, by simp [intOf]; omega⟩
    · obtain rfl : i = q := by omega
      rw [← HN.out] at hO
      have HO := Lib.hid hO
      have hi1 : ¬ (i : Int) < (i : Int) := by omega
      clear hO
      go_wp2_with fail
      go_ret
      exact ⟨g0, k, cq, rfl, HO.out, bel_trans hbw1 hb⟩
end Go.Proofs.YteelmhmdnljjnaaGreat
