/- Texts of this claim, one behind the other: part 5. -/
import Derived.Test.YtcgjnonlndaoeaaGreatDoorU4FewestCovering
import Derived.Outline
import Derived.WalkLawsBesides
import Derived.WalkSpells
import Derived.BigQuiet
import Derived.Deep.QuietTactic
import Derived.Deep.RegionHeld3
import Derived.Deep.RegionWith
import Derived.Deep.DeepCutAuto
import Derived.Deep.CutBlock
import Derived.Deep.DrawnRows
import Derived.Deep.RegionLaw
import Derived.Laws.EntriesVeiled
import Derived.Shelf.Spec.TrailingZeros
/- The placements of a shape, of all pieces, in a region: the reference. -/
namespace Go.Proofs.YtcgjnonlndaoeaaGreatDoor
open Go.RowKit
set_option linter.unusedVariables false
attribute [local go_sem ↓] Go.wp_at_zero Go.wp_at_succ

theorem mv_smallS {t : List C} (h : ∀ c ∈ t, (0 ≤ c.1 ∧ c.1 ≤ 14) ∧ (0 ≤ c.2 ∧ c.2 ≤ 14)) {x y : Nat} (hx : x ≤ 6) (hy : y ≤ 6) : ∀ d ∈ mv t (x : Int) (y : Int), small d := by
  intro d hd
  rw [mv_mem] at hd
  have := h _ hd
  simp only at this
  unfold small
  omega
set_option maxRecDepth 100000 in
set_option maxHeartbeats 6400000 in
theorem PlacementsOf_s (W : Int) (A B : Option Addr) (n c k cb : Nat) (rows : List Int) (xs : List C) (w : World) (hr : Rd w A (vI rows)) (hl : rows.length = n) (hv : isReg W rows = true) (hrx : Rd w B (vC xs)) (hlx : xs.length = k) (hs : isShape xs = true) :
    Calls Tryz.prog 69 #[.agg #[.int .i64 W, .slice A n c], .slice B k cb] w (RetO w w.heap.size 3 1 (vI (plV W rows xs))) := by
  have hv0 := hv
  have hPV : plV W rows xs = putAll (rawTo W rows (orV xs) (orV xs).length) := by unfold plV; rw [if_pos hv]; rfl
  obtain ⟨m, rfl, hm1, hm6, hn1, hn6, hrow⟩ := isReg_yes hv
  have h36 : m * rows.length ≤ 6 * 6 := Nat.mul_le_mul hm6 hn6
  have hmt : ((m : Int)).toNat = m := Int.toNat_natCast _
  have hfine := orV_fine (s := xs)
  have hol := orV_len xs
  have HLX := Lib.hid hlx
  have HSX := Lib.hid hs
  obtain ⟨F, hF⟩ : ∃ F, orV xs = F := ⟨_, rfl⟩
  rw [hF] at hPV hfine hol
  have HF := Lib.hid hF
  have HPV := Lib.hid hPV
  have HFI := Lib.hid hfine
  have HL := Lib.hid hl
  have HV := Lib.hid hv0
  have HR := Lib.hid ((hr.alloc (.cells #[.int .i64 (m : Int), .slice A n c] 29)).alloc (.cells #[] 3))
  have HRX := Lib.hid ((hrx.alloc (.cells #[.int .i64 (m : Int), .slice A n c] 29)).alloc (.cells #[] 3))
  have H36 : Hid (m * rows.length ≤ 36) := h36
  have HMT := Lib.hid hmt
  have HI0 : Hid (((w.alloc (.cells #[.int .i64 (m : Int), .slice A n c] 29)).alloc (.cells #[] 3)).ownsRow w.heap.size 3 1 (.slice (some ⟨w.heap.size + 1, 0, none⟩) 0 0) 0 (vI [])) := by
    have h := own_new (w.alloc (.cells #[.int .i64 (m : Int), .slice A n c] 29)) 3 1 0 #[] rfl (by simp [maxLen]) (base := w.heap.size) (by simp)
    exact Lib.hid (by simpa [vI] using h)
  rw [hl] at hn1 hn6
  clear hl hr hrow hv hv0 hrx hlx hs h36 hmt hPV hfine hF
  go_enter Tryz.func69, Tryz.ntmps69
  go_wp2_with fail
  refine (OrientationsOf_s B k cb xs _ HRX.out HLX.out HSX.out).mono ?_
  rw [HF.out]
  rintro e w1 ⟨gA, q0, c0, hs, rfl, hO0, hb1⟩
  have HB1 := Lib.hid (((Blk.new w 29 #[.int .i64 (m : Int), .slice A n c]).alloc (.cells #[] 3)).below hb1)
  have HR1 := Lib.hid (HR.out.below hb1)
  have hbw1 : Below w.heap.size w w1 := bel_trans (bel_alloc (bel_alloc (Below.refl _ _) _) _) hb1
  have HI1 := Lib.hid (own_keep HI0.out hb1)
  have HRF := Lib.hid hO0.rd
  have HFL := Lib.hid hO0.flen
  have hq8 : q0 ≤ 8 := by have := hO0.flen; omega
  have hgA := (own_lt hO0.own gA rfl).2
  have HGR : Hid (∀ (i : Nat) x f, hs[i]? = some x → F[i]? = some f → ∀ g, ob x.1 = some g → g < w1.heap.size) := fun i x f h1 h2 g e => (hO0.row i x f h1 h2).lt g e
  clear hb1 hO0 HI0
  go_wp2_with fail
  go_loopw [7, 5] (fun e15 e5 wr => ∃ (i q cq g : Nat), i ≤ q0 ∧ e15 = .int .i64 i ∧ e5 = .slice (some ⟨g, 0, none⟩) q cq ∧ wr.ownsRow w.heap.size 3 1 (.slice (some ⟨g, 0, none⟩) q cq) q (vI (putAll (rawTo (m : Int) rows F i))) ∧ Below w1.heap.size w1 wr) (fun e15 _ _ => q0 - (intOf e15).toNat)
  case atStart => exact ⟨0, 0, 0, _, Nat.zero_le _, rfl, rfl, by simpa [rawTo, putAll] using HI1.out, Below.refl _ _⟩
  case round =>
    clear HI1
    obtain ⟨i, q, cq, gD, hi, rfl, rfl, hO, hb⟩ := hrel
    have hB := HB1.out.below hb
    have b0 : wr.cell? ⟨w.heap.size, 0, none⟩ = some (.int .i64 (m : Int)) := by simpa using hB.cell 0
    have b1 : wr.cell? ⟨w.heap.size, 1, none⟩ = some (.slice A n c) := by simpa using hB.cell 1
    have hgw := hB.lt
    clear hB
    by_cases hlt : i < q0
    · have hi0 : (0 : Int) ≤ (i : Int) := by omega
      have hi1 : (i : Int) < (q0 : Int) := by omega
      obtain ⟨x, t, gA', off, hsx, hfx, hAe, hg, d1, hrow⟩ := HRF.out.at_ hlt
      simp only [Option.some.injEq, Addr.mk.injEq, and_true] at hAe
      obtain ⟨rfl, rfl⟩ := hAe
      rw [Nat.zero_add] at d1
      have hft := HFI.out t (List.mem_of_getElem? hfx)
      have hgrt := HGR.out i x t hsx hfx
      have hstep : rawTo (m : Int) rows F (i + 1) = rawTo (m : Int) rows F i ++ rowY (m : Int) rows t n := by
        show _ ++ rowY _ _ (F.getD i []) rows.length = _
        rw [List.getD_eq_getElem?_getD, hfx, Option.getD_some, HL.out]
      have hol2 := (rawTo_msk H36.out F i).2
      obtain ⟨C1, m1, k1⟩ := x
      have hl1 : t.length = m1 := hrow.1
      obtain ⟨O, hOe⟩ : ∃ O, rawTo (m : Int) rows F i = O := ⟨_, rfl⟩
      rw [hOe] at hstep hO hol2
      have hrt : Rd w1 C1 (vC t) := hrow.2.1
      have HRT := Lib.hid hrt
      have HL1 := Lib.hid hl1
      have HFT := Lib.hid hft
      have HST := Lib.hid hstep
      have HO := Lib.hid hO
      have HGT := Lib.hid hgrt
      have hOl : O.length ≤ 288 := by omega
      dsimp only at d1
      have HD1 := Lib.hid d1
      have hm8 : m1 ≤ 8 := by have := hft.1.2; omega
      clear hsx hfx hrow hstep hO hl1 hft hOe hrt hol2 hgrt d1
      go_wp2_with fail
      refine (IsRegion_s _ _ _ _ rows _ (HR1.out.below hb) HL.out).mono ?_
      rw [HV.out]
      rintro e w2 ⟨rfl, hb2⟩
      have hb12 := bel_trans hb hb2
      have HO2 := Lib.hid (own_keep HO.out hb2)
      clear HO b0 b1 hgw
      go_wp2_with fail
      go_loopw [8, 5] (fun e22 e5 wr => ∃ (y q cq gD : Nat), y ≤ n ∧ e22 = .int .i64 y ∧ e5 = .slice (some ⟨gD, 0, none⟩) q cq ∧ wr.ownsRow w.heap.size 3 1 (.slice (some ⟨gD, 0, none⟩) q cq) q (vI (putAll (O ++ rowY (m : Int) rows t y))) ∧ Below w1.heap.size w1 wr) (fun e22 _ _ => n - (intOf e22).toNat)
      case atStart => exact ⟨0, q, cq, gD, Nat.zero_le _, rfl, rfl, by simpa [rowY] using HO2.out, hb12⟩
      case round =>
        clear HO2 hb hb2 hb12
        obtain ⟨y, q, cq, gD, hy, rfl, rfl, hO, hb⟩ := hrel
        have hB := HB1.out.below hb
        have b0 : wr.cell? ⟨w.heap.size, 0, none⟩ = some (.int .i64 (m : Int)) := by simpa using hB.cell 0
        have b1 : wr.cell? ⟨w.heap.size, 1, none⟩ = some (.slice A n c) := by simpa using hB.cell 1
        have hgw := hB.lt
        clear hB
        by_cases hly : y < n
        · have hy0 : (0 : Int) ≤ (y : Int) := by omega
          have hy1 : (y : Int) < (n : Int) := by omega
          have hstY : rowY (m : Int) rows t (y + 1) = rowY (m : Int) rows t y ++ rowX (m : Int) rows t y m := by show _ ++ rowX _ _ _ _ _ = _; rw [HMT.out]
          have hyl := (rowY_msk H36.out t y).2
          obtain ⟨O2, hO2⟩ : ∃ O2, O ++ rowY (m : Int) rows t y = O2 := ⟨_, rfl⟩
          have hstY2 : O ++ rowY (m : Int) rows t (y + 1) = O2 ++ rowX (m : Int) rows t y m := by rw [hstY, ← List.append_assoc, hO2]
          have hO2l : O2.length ≤ 400 := by
            rw [← hO2, List.length_append]
            have : y * m ≤ 6 * 6 := Nat.mul_le_mul (by omega) hm6
            omega
          rw [hO2] at hO
          have HST2 := Lib.hid hstY2
          have HO := Lib.hid hO
          clear hstY hyl hO2 hstY2 hO
          go_wp2_with fail
          go_loopw [9, 5] (fun e27 e5 wr => ∃ (x q cq gD : Nat), x ≤ m ∧ e27 = .int .i64 x ∧ e5 = .slice (some ⟨gD, 0, none⟩) q cq ∧ wr.ownsRow w.heap.size 3 1 (.slice (some ⟨gD, 0, none⟩) q cq) q (vI (putAll (O2 ++ rowX (m : Int) rows t y x))) ∧ Below w1.heap.size w1 wr) (fun e27 _ _ => m - (intOf e27).toNat)
          case atStart => exact ⟨0, q, cq, gD, Nat.zero_le _, rfl, rfl, by simpa [rowX] using HO.out, hb⟩
          case round =>
            clear HO hb b0 b1 hgw
            obtain ⟨x, q, cq, gD, hx, rfl, rfl, hO, hb⟩ := hrel
            have hB := HB1.out.below hb
            have b0 : wr.cell? ⟨w.heap.size, 0, none⟩ = some (.int .i64 (m : Int)) := by simpa using hB.cell 0
            have b1 : wr.cell? ⟨w.heap.size, 1, none⟩ = some (.slice A n c) := by simpa using hB.cell 1
            have hgw := hB.lt
            clear hB
            have hql : (putAll (O2 ++ rowX (m : Int) rows t y x)).length = q := by have := own_len hO; rw [vI_length] at this; omega
            have hpl := putAll_len (O2 ++ rowX (m : Int) rows t y x)
            have hxl := (rowX_msk H36.out t y x).2
            rw [List.length_append] at hpl
            have hq500 : q ≤ 500 := by omega
            by_cases hlx : x < m
            · have hx0 : (0 : Int) ≤ (x : Int) := by omega
              have hx1 : (x : Int) < (m : Int) := by omega
              obtain ⟨r, hmc⟩ : ∃ r, mcV (m : Int) rows (mv t (x : Int) (y : Int)) 0 = r := ⟨_, rfl⟩
              have hstX : O2 ++ rowX (m : Int) rows t y (x + 1) = (O2 ++ rowX (m : Int) rows t y x) ++ optL r := by
                show O2 ++ (_ ++ plAt _ _ _ _ _) = _
                unfold plAt
                rw [hmc, List.append_assoc]
              obtain ⟨O3, hO3⟩ : ∃ O3, O2 ++ rowX (m : Int) rows t y x = O3 := ⟨_, rfl⟩
              rw [hO3] at hstX hO
              have HST3 := Lib.hid hstX
              have HO := Lib.hid hO
              have HMC := Lib.hid hmc
              have HSV : Hid (∀ d ∈ mv t (x : Int) (y : Int), small d) := mv_smallS HFT.out.2 (by omega) (by omega)
              have HDI : Hid ((wr.alloc (.cells #[] 77)).ownsRow wr.heap.size 77 2 (.slice (some ⟨wr.heap.size, 0, none⟩) 0 0) 0 (vC ((mv t (x : Int) (y : Int)).take 0))) := by
                have h := own_new wr 77 2 0 #[] rfl (by simp [maxLen]) (Nat.le_refl wr.heap.size)
                exact Lib.hid (by simpa [vC] using h)
              have HWB : Hid (Below wr.heap.size wr (wr.alloc (.cells #[] 77))) := bel_alloc (Below.refl _ _) _
              clear hstX hO hmc hO3 hql hxl hpl
              go_wp2_with fail
              go_loopw [11, 10] (fun e11 e10 wq => ∃ (j cj : Nat) (E : Option Addr), j ≤ m1 ∧ e11 = .int .i64 j ∧ e10 = .slice E j cj ∧ wq.ownsRow wr.heap.size 77 2 (.slice E j cj) j (vC ((mv t (x : Int) (y : Int)).take j)) ∧ Below wr.heap.size wr wq) (fun e11 _ _ => m1 - (intOf e11).toNat)
              case atStart => exact ⟨0, 0, _, Nat.zero_le _, rfl, rfl, HDI.out, HWB.out⟩
              case round =>
                clear HDI HWB
                obtain ⟨j, cj, E, hj, rfl, rfl, hM, hbj⟩ := hrel
                have hb1j := bel_trans hb hbj
                have d1 := keep_below hb1j HD1.out
                have hgAj : gA < wr.heap.size := Nat.lt_of_lt_of_le hgA hb1j.size
                by_cases hlj : j < m1
                · have hjl : j < t.length := by rw [HL1.out]; exact hlj
                  have hj0 : (0 : Int) ≤ (j : Int) := by omega
                  have hj1 : (j : Int) < (m1 : Int) := by omega
                  obtain ⟨g, off, hA, hg0, d2, d3⟩ := RdC.at_ HRT.out hjl
                  have hg1 := HGT.out g (by rw [hA]; rfl)
                  have d2 := keep_below hb1j d2
                  have d3 := keep_below hb1j d3
                  have hgj : g < wr.heap.size := Nat.lt_of_lt_of_le hg1 hb1j.size
                  have hbsz := hb.size
                  have hgE : ¬ (some g = ob E) := fun e => by have := (own_lt hM g e.symm).1; omega
                  have hgAE : ¬ (some gA = ob E) := fun e => by have := (own_lt hM gA e.symm).1; omega
                  have hml : j < (mv t (x : Int) (y : Int)).length := by rw [mv_len]; exact hjl
                  have hst : (mv t (x : Int) (y : Int)).take (j + 1) = (mv t (x : Int) (y : Int)).take j ++ [(t[j].1 + (x : Int), t[j].2 + (y : Int))] := by
                    rw [List.take_succ_eq_append_getElem hml]
                    simp [mv]
                  have hsm := HFT.out.2 _ (List.getElem_mem hjl)
                  obtain ⟨p, hp⟩ : ∃ p, t[j].1 = p := ⟨_, rfl⟩
                  obtain ⟨r', hr'⟩ : ∃ r', t[j].2 = r' := ⟨_, rfl⟩
                  rw [hp, hr'] at hst hsm
                  rw [hp] at d2
                  rw [hr'] at d3
                  have e1 : IntKind.i64.wrap (p + (x : Int)) = p + (x : Int) := Go.IntWalk.i64_in _ (by omega)
                  have e2 : IntKind.i64.wrap (r' + (y : Int)) = r' + (y : Int) := Go.IntWalk.i64_in _ (by omega)
                  have HSTJ := Lib.hid hst
                  have HM := Lib.hid hM
                  have hbs := hbj.size
                  subst hA
                  clear hst hM hp hr' hsm hml hg0 b0 b1 hgw
                  go_wp2_with fail
                  (refine wp_region_tailN (C := Gr wr E) 22 (by kernel_rfl) (by kernel_rfl) (Gr.drawn _ _) (fun _ _ h k => h.ext k) ?_; simp only [List.take_succ_cons, List.take_zero, List.drop_succ_cons, List.drop_zero]; (repeat (first | (refine headSkip (by rfl) rfl ?_; simp only [List.setIfInBounds_toArray, List.set_cons_zero, List.set_cons_succ]) | (refine headV (v := ?_) (by rfl) rfl (fun w' hcw => ?_) ?_; rotate_left; ((try dsimp only at hcw); have hbc := hcw.cells; go_simp; first | done | with_reducible rfl | fail); simp only [List.setIfInBounds_toArray, List.set_cons_zero, List.set_cons_succ]))); unfold wpHead)
                  (refine tailK (by rfl) (fun w3 hc3 he3 K hK => ?_); go_simp; refine hK _ _ (hc3.ext (by (repeat (first | with_reducible exact Below.refl _ _ | with_reducible assumption | with_reducible apply bel_alloc | with_reducible apply bel_drew | with_reducible apply bel_drewN | ((with_reducible refine bel_set ?_ ?_); rotate_left; (simp <;> omega)) | (with_reducible refine bel_trans ?_ (by with_reducible assumption)))))) ?_; clear hK K)
                  (refine tailK (by rfl) (fun w4 hc4 he4 K hK => ?_); refine wpC _ _ _ rfl _ E j cj ((mv t (x : Int) (y : Int)).take j) rfl (own_keep ((own_keep HM.out he3).alloc _) he4) _ 1 1 [(p + (x : Int), r' + (y : Int))] rfl (Rd.below (rd_newC _ _ _ _) he4) rfl (by omega) (by have h2 := he3.size; have h3 := he4.size; simp at h3; omega) ?_; intro A2 c2 w5 hown5 hg5 _; refine hK _ _ (Gr.trans hc4 hg5) ?_; clear hK K; simp only [Act.put, List.setIfInBounds_toArray, List.set_cons_zero, List.set_cons_succ])
                  (refine tailK (by rfl) (fun w6 hc6 he6 K hK => ?_); go_simp; refine hK _ _ (hc6) ?_; clear hK K)
                  (refine fun w7 hc7 he7 => NoPanic.normal ?_)
                  have hb4 := bel_trans (bel_alloc (bel_trans hbj he3) _) he4
                  have hb5 := bel_app hb4 hg5 (fun g' hg' => ((own_lt HM.out) g' hg').1)
                  have HO3 := Lib.hid (own_keep (own_keep hown5 he6) he7)
                  clear hown5
                  go_wp2
                  exact ⟨⟨j + 1, c2, A2, by omega, by go_num, rfl, by rw [HSTJ.out]; exact HO3.out, bel_trans (bel_trans hb5 he6) he7⟩, by simp [intOf]; omega⟩
                · obtain rfl : j = m1 := by omega
                  have hmt2 : (mv t (x : Int) (y : Int)).take j = mv t (x : Int) (y : Int) := List.take_of_length_le (by rw [mv_len, HL1.out]; omega)
                  rw [hmt2] at hM
                  have hmvl : (mv t (x : Int) (y : Int)).length = j := by rw [mv_len]; exact HL1.out
                  have HMVL := Lib.hid hmvl
                  have HRM := Lib.hid (Rd.of_own hM)
                  have hj1 : ¬ (j : Int) < (j : Int) := by omega
                  have c0 := keep_below hbj b0
                  have c1 := keep_below hbj b1
                  have hgwj : w.heap.size < wr.heap.size := Nat.lt_of_lt_of_le hgw hbj.size
                  have HOJ := Lib.hid (own_keep HO.out hbj)
                  clear hM hmt2 hmvl b0 b1 hgw
                  go_wp2_with fail
                  refine (MaskOfCells_s (m : Int) A E n c j cj rows (mv t (x : Int) (y : Int)) _ (HR1.out.below hb1j) HL.out HV.out HRM.out HMVL.out (by omega) HSV.out).mono ?_
                  rw [HMC.out]
                  rintro e w4 ⟨rfl, hb4⟩
                  have HOK := Lib.hid (own_keep HOJ.out hb4)
                  have hb14 := bel_trans hb1j hb4
                  clear c0 c1 hgwj d1 HRM
                  cases r with
                  | none =>
                    simp only [mcR]
                    go_wp2_with fail
                    exact ⟨⟨x + 1, q, cq, gD, by omega, by go_num, rfl, by rw [HST3.out]; simpa [optL] using HOK.out, hb14⟩, by simp [intOf]; omega⟩
                  | some v =>
                    simp only [mcR]
                    have hbzz : w.heap.size ≤ w4.heap.size := (bel_trans hbw1 hb14).size
                    go_wp2_with fail
                    refine (l7Put_s gD q cq (putAll O3) (v : Int) w.heap.size _ HOK.out hbzz (by omega)).mono ?_
                    rintro e w5 ⟨g5, n5, c5, rfl, hO5, hb5⟩
                    have HO5 := Lib.hid hO5
                    have HP5 : Hid (putAll (O3 ++ [(v : Int)]) = putI (putAll O3) (v : Int)) := putAll_snoc _ _
                    clear hO5
                    go_wp2_with fail
                    exact ⟨⟨x + 1, n5, c5, g5, by omega, by go_num, rfl, by rw [HST3.out]; show World.ownsRow _ _ _ _ _ _ (vI (putAll (O3 ++ [(v : Int)]))); rw [HP5.out]; exact HO5.out, bel_trans hb14 hb5⟩, by simp [intOf]; omega⟩
            · obtain rfl : x = m := by omega
              rw [← HST2.out] at hO
              have HO := Lib.hid hO
              have hx1 : ¬ (x : Int) < (x : Int) := by omega
              clear hO hql hxl hpl
              go_wp2_with fail
              exact ⟨⟨y + 1, q, cq, gD, by omega, by go_num, rfl, HO.out, hb⟩, by simp [intOf]; omega⟩
        · obtain rfl : y = n := by omega
          rw [← HST.out] at hO
          have HO := Lib.hid hO
          have hy1 : ¬ (y : Int) < (y : Int) := by omega
          clear hO
          go_wp2_with fail
          exact ⟨⟨i + 1, q, cq, gD, by omega, by go_num, rfl, HO.out, hb⟩, by simp [intOf]; omega⟩
    · obtain rfl : i = q0 := by omega
      have HN : Hid (plV (m : Int) rows xs = putAll (rawTo (m : Int) rows F i)) := by show _ = _; rw [HPV.out, HFL.out]
      rw [← HN.out] at hO
      have HO := Lib.hid hO
      have hi1 : ¬ (i : Int) < (i : Int) := by omega
      clear hO
      go_wp2_with fail
      go_ret
      exact ⟨gD, q, cq, rfl, HO.out, bel_trans hbw1 hb⟩
theorem world_ltS {w : World} {a : Addr} {v : Value} (h : w.cell? a = some v) : a.block < w.heap.size := World.block_lt_of_cell? w a h
theorem putI_len (l : List Int) (n : Int) : (putI l n).length ≤ l.length + 1 := by
  unfold putI
  have := cutTo_le l n l.length
  split
  · omega
  · simp; omega
theorem pcs_atS {P : List (List C)} (h : pcs P = true) : P.length ≤ 5 ∧ ∀ f ∈ P, isShape f = true := by
  refine ⟨(pcs_small h).1, ?_⟩
  unfold pcs at h
  simp only [Bool.and_eq_true, List.all_eq_true] at h
  exact h.1
theorem foldl_take {β : Type} (f : β → Int → β) (b : β) (xs : List Int) (k : Nat) (hk : k < xs.length) : (xs.take (k + 1)).foldl f b = f ((xs.take k).foldl f b) xs[k] := by
  rw [List.take_succ_eq_append_getElem hk, List.foldl_append]; rfl
set_option maxHeartbeats 3200000 in
theorem AllPlacements_s (W : Int) (A B : Option Addr) (n c q cb : Nat) (rows : List Int) (hs : List H) (P : List (List C)) (w : World) (hr : Rd w A (vI rows)) (hl : rows.length = n) (hv : isReg W rows = true) (hp : RdP w B q hs P) (hpc : pcs P = true) :
    Calls Tryz.prog 41 #[.agg #[.int .i64 W, .slice A n c], .slice B q cb] w (RetO w w.heap.size 3 1 (vI (allV W rows P))) := by
  obtain ⟨hq5, hsh⟩ := pcs_atS hpc
  rw [hp.flen] at hq5
  have htc : totC P ≤ 1048576 := by have := (pcs_small hpc).2; omega
  have hN : allV W rows P = putAll (catTo W rows P q) := by unfold allV; rw [hp.flen]
  have HN := Lib.hid hN
  have HSH := Lib.hid hsh
  have HTC := Lib.hid htc
  have HPC := Lib.hid hpc
  have HL := Lib.hid hl
  have HV := Lib.hid hv
  have HR := Lib.hid ((hr.alloc (.cells #[.int .i64 W, .slice A n c] 29)).alloc (.cells #[] 3))
  have HP := Lib.hid ((hp.alloc (.cells #[.int .i64 W, .slice A n c] 29)).alloc (.cells #[] 3))
  have HB1 := Lib.hid ((Blk.new w 29 #[.int .i64 W, .slice A n c]).alloc (.cells #[] 3))
  have HI0 : Hid (((w.alloc (.cells #[.int .i64 W, .slice A n c] 29)).alloc (.cells #[] 3)).ownsRow w.heap.size 3 1 (.slice (some ⟨w.heap.size + 1, 0, none⟩) 0 0) 0 (vI [])) := by
    have h := own_new (w.alloc (.cells #[.int .i64 W, .slice A n c] 29)) 3 1 0 #[] rfl (by simp [maxLen]) (base := w.heap.size) (by simp)
    exact Lib.hid (by simpa [vI] using h)
  have hbw1 : Below w.heap.size w ((w.alloc (.cells #[.int .i64 W, .slice A n c] 29)).alloc (.cells #[] 3)) := bel_alloc (bel_alloc (Below.refl _ _) _) _
  clear hl hr hv hp hN hsh hpc htc
  go_enter Tryz.func41, Tryz.ntmps41
  go_wp2_with fail
  obtain ⟨w1, hw1⟩ : ∃ w1, (w.alloc (.cells #[.int .i64 W, .slice A n c] 29)).alloc (.cells #[] 3) = w1 := ⟨_, rfl⟩
  rw [hw1] at HR HP HB1 hbw1 HI0 ⊢
  clear hw1
  go_loopw [6, 5] (fun e6 e5 wr => ∃ (i k cq g : Nat), i ≤ q ∧ e6 = .int .i64 i ∧ e5 = .slice (some ⟨g, 0, none⟩) k cq ∧ wr.ownsRow w.heap.size 3 1 (.slice (some ⟨g, 0, none⟩) k cq) k (vI (putAll (catTo W rows P i))) ∧ Below w1.heap.size w1 wr) (fun e6 _ _ => q - (intOf e6).toNat)
  case atStart => exact ⟨0, 0, 0, _, Nat.zero_le _, rfl, rfl, by simpa [catTo, putAll] using HI0.out, Below.refl _ _⟩
  case round =>
    clear HI0
    obtain ⟨i, k, cq, g0, hi, rfl, rfl, hO, hb⟩ := hrel
    have hkl : (putAll (catTo W rows P i)).length = k := by have := own_len hO; rw [vI_length] at this; omega
    have hcl := (catTo_msk W rows P i).2
    have hpl := putAll_len (catTo W rows P i)
    have hk : k ≤ 1440 := by omega
    clear hkl hpl
    by_cases hlt : i < q
    · have hi0 : (0 : Int) ≤ (i : Int) := by omega
      have hi1 : (i : Int) < (q : Int) := by omega
      have HO := Lib.hid hO
      obtain ⟨x, f, g, off, _, hfx, hBe, hg0, d0, l1, r1⟩ := HP.out.at_ hlt
      have hfs := HSH.out f (List.mem_of_getElem? hfx)
      have hst : catTo W rows P (i + 1) = catTo W rows P i ++ plV W rows f := by
        show _ ++ plV W rows (P.getD i []) = _
        rw [List.getD_eq_getElem?_getD, hfx, Option.getD_some]
      obtain ⟨C1, m1, k1⟩ := x
      have HFS := Lib.hid hfs
      have HR1 := Lib.hid r1
      have HL1 := Lib.hid l1
      have HST := Lib.hid hst
      have hpl := plV_len W rows f
      dsimp only at d0
      have HD0 := Lib.hid d0
      subst hBe
      clear hfx hst hO r1 l1 hfs d0
      go_wp2_with fail
      refine (ArePieces_s _ q cb hs P _ (HP.out.below hb) (by omega) HTC.out).mono ?_
      rw [HPC.out]
      rintro e w2 ⟨rfl, hb2⟩
      have hb12 := bel_trans hb hb2
      have hB := HB1.out.below hb12
      have b0 : w2.cell? ⟨w.heap.size, 0, none⟩ = some (.int .i64 W) := by simpa using hB.cell 0
      have b1 : w2.cell? ⟨w.heap.size, 1, none⟩ = some (.slice A n c) := by simpa using hB.cell 1
      have hgw := hB.lt
      have d1 := keep_below hb12 HD0.out
      have hg2 : g < w2.heap.size := world_ltS d1
      have HO2 := Lib.hid (own_keep HO.out hb2)
      clear hB HO
      go_wp2_with fail
      (refine wp_region_tailN (C := ExC w2) 5 (by kernel_rfl) (by kernel_rfl) (ExC.drawn _) (fun _ _ h k => ExC.ext h k) ?_; simp only [List.take_succ_cons, List.take_zero, List.drop_succ_cons, List.drop_zero]; (repeat (first | (refine headSkip (by rfl) rfl ?_; simp only [List.setIfInBounds_toArray, List.set_cons_zero, List.set_cons_succ]) | (refine headV (v := ?_) (by rfl) rfl (fun w' hcw => ?_) ?_; rotate_left; ((try dsimp only at hcw); have hbc := hcw.cells; go_simp; first | done | with_reducible rfl | fail); simp only [List.setIfInBounds_toArray, List.set_cons_zero, List.set_cons_succ]))); unfold wpHead)
      refine tailK (by rfl) (fun u1 hc1 he1 K hK => ?_)
      go_simp
      refine (PlacementsOf_s W A C1 n c m1 k1 rows f _ (HR.out.below (bel_trans hb12 hc1)) HL.out HV.out (HR1.out.below (bel_trans hb12 hc1)) HL1.out HFS.out).mono ?_
      rintro e u2 ⟨gE, q2, c2, rfl, hOE, hbE⟩
      have hc2 := bel_trans hc1 hbE
      refine hK _ _ hc2 ?_
      clear hK K
      have hq2 : (plV W rows f).length = q2 := by have := own_len hOE; rw [vI_length] at this; omega
      have HQ2 := Lib.hid hq2
      have HRE := Lib.hid (Rd.of_own hOE)
      (refine tailK (by rfl) (fun u3 hc3 he3 K hK => ?_); go_simp; refine hK _ _ (hc3) ?_; clear hK K)
      (refine fun w4 hc4 he4 => NoPanic.normal ?_)
      have HR4 := Lib.hid ((HRE.out.below he3).below he4)
      have HO4 := Lib.hid (own_keep HO2.out hc4)
      have hb14 := bel_trans hb12 hc4
      have hq3 : q2 ≤ 288 := by omega
      clear hOE hq2 hpl d1 b0 b1 hgw hc3 he3 hc2 hbE hc1 he1 he4 HO2 HRE hg2 hc4
      go_wp2_with fail
      go_loopw [8, 5] (fun e8 e5 wr => ∃ (j k cq g : Nat), j ≤ q2 ∧ e8 = .int .i64 j ∧ e5 = .slice (some ⟨g, 0, none⟩) k cq ∧ wr.ownsRow w.heap.size 3 1 (.slice (some ⟨g, 0, none⟩) k cq) k (vI (((plV W rows f).take j).foldl putI (putAll (catTo W rows P i)))) ∧ k ≤ 1440 + j ∧ Below w4.heap.size w4 wr) (fun e8 _ _ => q2 - (intOf e8).toNat)
      case atStart => exact ⟨0, k, cq, _, Nat.zero_le _, rfl, rfl, by simpa using HO4.out, by omega, Below.refl _ _⟩
      case round =>
        clear HO4
        obtain ⟨j, k, cq, gO, hj, rfl, rfl, hO, hkk, hbj⟩ := hrel
        by_cases hlj : j < q2
        · have hjl : j < (plV W rows f).length := by rw [HQ2.out]; exact hlj
          have hj0 : (0 : Int) ≤ (j : Int) := by omega
          have hj1 : (j : Int) < (q2 : Int) := by omega
          obtain ⟨gR, oR, hA, hgR, d1⟩ := RdI.at_ (HR4.out.below hbj) hjl
          simp only [Option.some.injEq, Addr.mk.injEq, and_true] at hA
          obtain ⟨rfl, rfl⟩ := hA
          rw [Nat.zero_add] at d1
          have hst2 := foldl_take putI (putAll (catTo W rows P i)) (plV W rows f) j hjl
          obtain ⟨v, hv⟩ : ∃ v, (plV W rows f)[j] = v := ⟨_, rfl⟩
          obtain ⟨L, hL⟩ : ∃ L, ((plV W rows f).take j).foldl putI (putAll (catTo W rows P i)) = L := ⟨_, rfl⟩
          rw [hv] at d1 hst2
          rw [hL] at hst2 hO
          have hLk : L.length = k := by have := own_len hO; rw [vI_length] at this; omega
          have hpi := putI_len L v
          have HST2 := Lib.hid hst2
          have HO := Lib.hid hO
          have HPI := Lib.hid hpi
          have HLK := Lib.hid hLk
          have hbz := (bel_trans hbw1 (bel_trans hb14 hbj)).size
          clear hst2 hO hv hL hpi hLk
          go_wp2_with fail
          refine (l7Put_s gO k cq L v w.heap.size _ HO.out hbz (by omega)).mono ?_
          rintro e w5 ⟨g5, n5, c5, rfl, hO5, hb5⟩
          have hn5 : (putI L v).length = n5 := by have := own_len hO5; rw [vI_length] at this; omega
          have hn6 : n5 ≤ 1440 + (j + 1) := by have := HPI.out; have := HLK.out; omega
          have HO5 := Lib.hid hO5
          clear hO5 d1 hn5
          go_wp2_with fail
          exact ⟨⟨j + 1, n5, c5, g5, by omega, by go_num, rfl, by rw [HST2.out]; exact HO5.out, hn6, bel_trans hbj hb5⟩, by simp [intOf]; omega⟩
        · obtain rfl : j = q2 := by omega
          have he : ((plV W rows f).take j).foldl putI (putAll (catTo W rows P i)) = putAll (catTo W rows P (i + 1)) := by
            rw [HST.out, List.take_of_length_le (by rw [HQ2.out]; omega)]
            simp [putAll]
          rw [he] at hO
          have HO := Lib.hid hO
          have hj1 : ¬ (j : Int) < (j : Int) := by omega
          clear he hO
          go_wp2_with fail
          exact ⟨⟨i + 1, k, cq, gO, by omega, by go_num, rfl, HO.out, bel_trans hb14 hbj⟩, by simp [intOf]; omega⟩
    · obtain rfl : i = q := by omega
      rw [← HN.out] at hO
      have HO := Lib.hid hO
      have hi1 : ¬ (i : Int) < (i : Int) := by omega
      clear hO
      go_wp2_with fail
      go_ret
      exact ⟨g0, k, cq, rfl, HO.out, bel_trans hbw1 hb⟩
end Go.Proofs.YtcgjnonlndaoeaaGreatDoor

/- A queue: a slice of the call's own that may begin in the middle of its block; taken from at the front, appended to. -/
namespace Go.Proofs.YtcgjnonlndaoeaaGreatDoor
open Go.RowKit
set_option linter.unusedVariables false
/-- The slice at cell off of block g, n elements long, owns its row. -/
def World.ownsQ (w : World) (base e size g off n c : Nat) (xs : List Value) : Prop :=
  xs.length = n * size ∧ n ≤ c ∧ c ≤ maxLen ∧ base ≤ g ∧ ∃ cur : Array Value, w.heap[g]? = some (.cells cur e (0, 0)) ∧ off + c * size ≤ cur.size ∧ (cur.toList.drop off).take (n * size) = xs
section
variable {w w' : World} {base e size g off n c : Nat} {xs : List Value}
theorem ownQ_of {A : Option Addr} (h : w.ownsRow base e size (.slice A n c) n xs) (hn : 0 < n) : ∃ g, A = some ⟨g, 0, none⟩ ∧ World.ownsQ w base e size g 0 n c xs := by
  rcases h.2 with ⟨_, rfl⟩ | ⟨g, cap, cur, hv, hb, hg, hnc, hcm, hcs, ht⟩
  · omega
  · injection hv with h1 h2 h3
    subst h1 h3
    exact ⟨g, rfl, h.1, hnc, hcm, hb, cur, hg, by rw [hcs]; omega, by simpa using ht⟩
theorem ownQ_keep (h : World.ownsQ w base e size g off n c xs) (hb : Below w.heap.size w w') : World.ownsQ w' base e size g off n c xs := by
  obtain ⟨h1, h2, h3, h4, cur, hg, h5, h6⟩ := h
  exact ⟨h1, h2, h3, h4, cur, (hb.block g (Array.getElem?_eq_some_iff.1 hg).1).trans hg, h5, h6⟩
theorem ownQ_kept {row : Option Nat} (h : World.ownsQ w base e size g off n c xs) (hb : w.grownBy w' row) (hne : some g ≠ row) : World.ownsQ w' base e size g off n c xs := by
  obtain ⟨h1, h2, h3, h4, cur, hg, h5, h6⟩ := h
  exact ⟨h1, h2, h3, h4, cur, (hb.block g (Array.getElem?_eq_some_iff.1 hg).1 hne).trans hg, h5, h6⟩
theorem ownQ_lt (h : World.ownsQ w base e size g off n c xs) : base ≤ g ∧ g < w.heap.size := by
  obtain ⟨h1, h2, h3, h4, cur, hg, h5, h6⟩ := h
  exact ⟨h4, (Array.getElem?_eq_some_iff.1 hg).1⟩
theorem Rd.of_ownQ (h : World.ownsQ w base e size g off n c xs) : Rd w (some ⟨g, off, none⟩) xs := by
  obtain ⟨h1, h2, h3, h4, cur, hg, h5, h6⟩ := h
  refine .inr ⟨g, off, rfl, fun j u hu => ?_⟩
  rw [cell_of_row w g (off + j) cur e (0, 0) hg]
  rw [← h6, List.getElem?_take] at hu
  split at hu
  · rw [List.getElem?_drop] at hu; simpa using hu
  · cases hu
/-- The front is taken away. -/
theorem ownQ_tail (h : World.ownsQ w base e size g off (n + 1) c xs) : World.ownsQ w base e size g (if c = 1 then off else off + size) n (c - 1) (xs.drop size) := by
  obtain ⟨h1, h2, h3, h4, cur, hg, h5, h6⟩ := h
  refine ⟨by rw [List.length_drop, h1, Nat.add_mul]; omega, by omega, by omega, h4, cur, hg, ?_, ?_⟩
  · split
    · next e => subst e; simp at h5 ⊢; omega
    · obtain ⟨k, rfl⟩ : ∃ k, c = k + 1 := ⟨c - 1, by omega⟩
      simp only [Nat.add_sub_cancel, Nat.add_mul, Nat.one_mul] at h5 ⊢
      omega
  · subst h6
    split
    · next e =>
      have : n = 0 := by omega
      subst this
      simp
    · rw [List.drop_take, List.drop_drop, Nat.add_mul, Nat.one_mul, Nat.add_sub_cancel]
theorem run_append_Q {P : Program} (w : World) {base e size g off n c : Nat} {xs : List Value} (t ty : TypeId) (i : TypeInfo) (z : Value) (bytes : Nat) (ht : P.underlying t = some (.slice e)) (hi : P.info? e = some i) (hz : i.zero = some z)
    (hsize : i.size = size) (hby : i.bytes = bytes) (hzs : z.cells.size = size) (hown : World.ownsQ w base e size g off n c xs)
    (a : Addr) (m c2 : Nat) (news : List Value) (hl : news.length = m * size) (hnews : ∀ j u, news[j]? = some u → w.cell? (a.add j) = some u) (h1 : ∀ u ∈ news, u.oneCell' = true)
    (h63 : n + m ≤ maxLen) (hbytes : (n + m) * bytes ≤ 140737488355328) (hbase : base ≤ w.heap.size) :
    ∃ g' off' c' w', (Builtin.append_ #[t, t] ty #[.slice (some ⟨g, off, none⟩) n c, .slice (some a) m c2]).run P w = .ok (.slice (some ⟨g', off', none⟩) (n + m) c') w' ∧ World.ownsQ w' base e size g' off' (n + m) c' (xs ++ news) ∧ w.grownBy w' (some g) ∧ (g' = g ∨ g' = w.heap.size) := by
  subst hsize hby
  have hrd := Rd.of_ownQ hown
  obtain ⟨hx, hnc, hcm, hbg, cur, hg, hfit, htake⟩ := hown
  have hlen : (xs ++ news).length = (n + m) * i.size := by rw [List.length_append, hx, hl, Nat.add_mul]
  by_cases hroom : n + m ≤ c
  · have hfit2 : off + n * i.size + news.length ≤ cur.size := by
      have : (n + m) * i.size ≤ c * i.size := Nat.mul_le_mul_right _ hroom
      rw [Nat.add_mul] at this
      omega
    have hf := run_firstCells_some (P := P) w i.size m a m c2 news hl hnews
    have hst := run_storeCells_at P g (off + n * i.size) e news 0 cur w hg (by simpa using hfit2) h1
    simp only [Nat.add_zero] at hst
    have hadd : (⟨g, off, none⟩ : Addr).add (n * i.size) = ⟨g, off + n * i.size, none⟩ := by unfold Addr.add; split <;> simp_all
    refine ⟨g, off, c, _, by simp [Builtin.append_, run_underlying ht, sizeOf, typeInfo, hi, Builtin.lenOf, hroom, hf, hadd, hst]; rfl, ⟨hlen, hroom, hcm, hbg, _, setRow_heap w g cur _ e _ hg, ?_, ?_⟩, ⟨rfl, rfl, rfl, by simp, fun k hk hne => setRow_other w g k _ (fun e => hne (by rw [e]))⟩, .inl rfl⟩
    · simp only [List.size_toArray, List.length_append, List.length_take, List.length_drop, Array.length_toList]
      omega
    · have e1 : (cur.toList.take (off + n * i.size)).drop off = xs := by rw [List.drop_take, Nat.add_sub_cancel_left]; exact htake
      have e2 : off ≤ (cur.toList.take (off + n * i.size)).length := by rw [List.length_take, Array.length_toList]; omega
      rw [← hlen]
      simp only []
      rw [List.drop_append_of_le_length e2, e1, ← List.append_assoc]
      exact List.take_left
  · have holds : ∀ j u, xs[j]? = some u → w.cell? ((⟨g, off, none⟩ : Addr).add j) = some u := by
      intro j u hu
      have hadd : (⟨g, off, none⟩ : Addr).add j = ⟨g, off + j, none⟩ := by unfold Addr.add; split <;> simp_all
      rw [hadd]
      rcases hrd with h | ⟨g', off', he, h⟩
      · rw [h] at hu; cases hu
      · injection he with he; injection he with h1 h2; subst h1 h2; exact h j u hu
    have hr := run_append_grow (P := P) w t ty e i z ht hi hz ⟨g, off, none⟩ n c xs hx holds a m c2 news hl hnews (by omega) (by simp only [maxLen] at h63; omega) (growslice_fits (by omega) hbytes)
    have hge := grownCap_ge w (n + m) c e
    have hcm2 : grownCap w (n + m) c e ≤ maxLen := grownCap_le_maxLen w (n + m) c e h63
    refine ⟨_, _, _, _, hr, ⟨hlen, hge, hcm2, hbase, _, heap_alloc_new w.drew _, ?_, ?_⟩, ⟨rfl, rfl, rfl, by simp, fun k hk _ => Below.heap_alloc w.drew _ k hk⟩, .inr rfl⟩
    · simp only [Array.size_append, List.size_toArray, size_zeroCells, hzs, hx, hl, ← Nat.add_mul, Nat.zero_add]
      refine Nat.le_of_eq ?_
      congr 1
      omega
    · simp only [Array.toList_append, List.append_assoc, List.drop_zero]
      rw [← List.append_assoc, ← hlen]
      exact List.take_left
end
section
variable (w : World) {ops : Array Oper} {rest : List Oper} {o : Oper} {a : Act} {Q : Exit → Act → World → Prop}
theorem app_QC (hgd : o.guard = none) (s x : Operand) (ho : o.op = .call { callee := .builtin .append, args := #[s, x], argTypes := #[59, 59] })
    (base g off n c : Nat) (l : List C) (hs : a.eval s = .slice (some ⟨g, off, none⟩) n c) (hown : World.ownsQ w base 77 2 g off n c (vC l))
    (g2 m c2 : Nat) (l2 : List C) (hx : a.eval x = .slice (some ⟨g2, 0, none⟩) m c2) (hr : ∀ j u, (vC l2)[j]? = some u → w.cell? ((⟨g2, 0, none⟩ : Addr).add j) = some u) (hl : l2.length = m) (hb : n + m ≤ 1099511627776) (hbase : base ≤ w.heap.size)
    (h : ∀ g' off' c' w', World.ownsQ w' base 77 2 g' off' (n + m) c' (vC (l ++ l2)) → w.grownBy w' (some g) → (g' = g ∨ g' = w.heap.size) → wpList Tryz.prog ops Q rest (a.put o.dst (.slice (some ⟨g', off', none⟩) (n + m) c')) w') :
    wpList Tryz.prog ops Q (o :: rest) a w := by
  obtain ⟨i0, hi, hz0, hz1, hz2⟩ := info_parts infoC
  refine wpList_plain hgd fun K hK => ?_
  obtain ⟨g', off', c', w', hrun, h2, h3, h4⟩ := run_append_Q (P := Tryz.prog) w 59 o.type i0 _ 16 Tryz.underlying59 hi hz0 hz1 hz2 rfl hown ⟨g2, 0, none⟩ m c2 (vC l2) (by rw [vC_length, hl]) hr (vC_one _) (by unfold maxLen; omega) (by omega) hbase
  rw [← vC_append] at h2
  unfold Oper.wp execOp
  simp only [ho, resolve, invoke, builtin, Sem.run_bind, Sem.run_pure, Result.andThen_ok, List.map_toArray, List.map_cons, List.map_nil, hs, hx, hrun]
  exact hK _ _ (h g' off' c' w' h2 h3 h4)
end
theorem newC_cells (w : World) (t : TypeId) (x y : Int) : ∀ j u, (vC [(x, y)])[j]? = some u → (w.alloc (.cells #[.int .i64 x, .int .i64 y] t)).cell? ((⟨w.heap.size, 0, none⟩ : Addr).add j) = some u := by
  intro j u hu
  have h := rd_newC w t x y
  rcases h with h | ⟨g, off, he, h⟩
  · simp [vC] at h
  · injection he with he; injection he with h1 h2; subst h1 h2
    have := h j u hu
    have hadd : (⟨w.heap.size, 0, none⟩ : Addr).add j = ⟨w.heap.size, 0 + j, none⟩ := by unfold Addr.add; split <;> simp_all
    rw [hadd]; exact this
end Go.Proofs.YtcgjnonlndaoeaaGreatDoor

/- An append onto a row of the call's own: what was there reads as before, at its old place too. -/
namespace Go.Proofs.YtcgjnonlndaoeaaGreatDoor
open Go.RowKit
set_option linter.unusedVariables false
section
variable {w w' : World} {base e size g off n c : Nat} {xs : List Value}
theorem run_append_Q2 {P : Program} (w : World) {base e size g off n c : Nat} {xs : List Value} (t ty : TypeId) (i : TypeInfo) (z : Value) (bytes : Nat) (ht : P.underlying t = some (.slice e)) (hi : P.info? e = some i) (hz : i.zero = some z)
    (hsize : i.size = size) (hby : i.bytes = bytes) (hzs : z.cells.size = size) (hown : World.ownsQ w base e size g off n c xs)
    (a : Addr) (m c2 : Nat) (news : List Value) (hl : news.length = m * size) (hnews : ∀ j u, news[j]? = some u → w.cell? (a.add j) = some u) (h1 : ∀ u ∈ news, u.oneCell' = true)
    (h63 : n + m ≤ maxLen) (hbytes : (n + m) * bytes ≤ 140737488355328) (hbase : base ≤ w.heap.size) :
    ∃ g' off' c' w', (Builtin.append_ #[t, t] ty #[.slice (some ⟨g, off, none⟩) n c, .slice (some a) m c2]).run P w = .ok (.slice (some ⟨g', off', none⟩) (n + m) c') w' ∧ World.ownsQ w' base e size g' off' (n + m) c' (xs ++ news) ∧ w.grownBy w' (some g) ∧ (g' = g ∧ off' = off ∨ g' = w.heap.size) ∧ Rd w' (some ⟨g, off, none⟩) xs := by
  subst hsize hby
  have hrd := Rd.of_ownQ hown
  obtain ⟨hx, hnc, hcm, hbg, cur, hg, hfit, htake⟩ := hown
  have hlen : (xs ++ news).length = (n + m) * i.size := by rw [List.length_append, hx, hl, Nat.add_mul]
  by_cases hroom : n + m ≤ c
  · have hfit2 : off + n * i.size + news.length ≤ cur.size := by
      have : (n + m) * i.size ≤ c * i.size := Nat.mul_le_mul_right _ hroom
      rw [Nat.add_mul] at this
      omega
    have hf := run_firstCells_some (P := P) w i.size m a m c2 news hl hnews
    have hst := run_storeCells_at P g (off + n * i.size) e news 0 cur w hg (by simpa using hfit2) h1
    simp only [Nat.add_zero] at hst
    have hadd : (⟨g, off, none⟩ : Addr).add (n * i.size) = ⟨g, off + n * i.size, none⟩ := by unfold Addr.add; split <;> simp_all
    refine ⟨g, off, c, _, by simp [Builtin.append_, run_underlying ht, sizeOf, typeInfo, hi, Builtin.lenOf, hroom, hf, hadd, hst]; rfl, ⟨hlen, hroom, hcm, hbg, _, setRow_heap w g cur _ e _ hg, ?_, ?_⟩, ⟨rfl, rfl, rfl, by simp, fun k hk hne => setRow_other w g k _ (fun e => hne (by rw [e]))⟩, .inl ⟨rfl, rfl⟩, ?_⟩
    · simp only [List.size_toArray, List.length_append, List.length_take, List.length_drop, Array.length_toList]
      omega
    · have e1 : (cur.toList.take (off + n * i.size)).drop off = xs := by rw [List.drop_take, Nat.add_sub_cancel_left]; exact htake
      have e2 : off ≤ (cur.toList.take (off + n * i.size)).length := by rw [List.length_take, Array.length_toList]; omega
      rw [← hlen]
      simp only []
      rw [List.drop_append_of_le_length e2, e1, ← List.append_assoc]
      exact List.take_left
    · refine .inr ⟨g, off, rfl, fun k u hu => ?_⟩
      have hk : k < n * i.size := by have := (List.getElem?_eq_some_iff.1 hu).1; omega
      rw [cell_of_row _ g (off + k) _ e (0, 0) (setRow_heap w g cur _ e _ hg)]
      have hc : cur.toList[off + k]? = some u := by
        rw [← htake, List.getElem?_take, if_pos hk, List.getElem?_drop] at hu
        exact hu
      have hlt : off + k < off + n * i.size := by omega
      simp only [List.getElem?_toArray]
      have hcl : off + k < cur.toList.length := (List.getElem?_eq_some_iff.1 hc).1
      have htl : off + k < (cur.toList.take (off + n * i.size)).length := by rw [List.length_take]; omega
      rw [List.getElem?_append_left htl, List.getElem?_take, if_pos hlt]
      exact hc
  · have holds : ∀ j u, xs[j]? = some u → w.cell? ((⟨g, off, none⟩ : Addr).add j) = some u := by
      intro j u hu
      have hadd : (⟨g, off, none⟩ : Addr).add j = ⟨g, off + j, none⟩ := by unfold Addr.add; split <;> simp_all
      rw [hadd]
      rcases hrd with h | ⟨g', off', he, h⟩
      · rw [h] at hu; cases hu
      · injection he with he; injection he with h1 h2; subst h1 h2; exact h j u hu
    have hr := run_append_grow (P := P) w t ty e i z ht hi hz ⟨g, off, none⟩ n c xs hx holds a m c2 news hl hnews (by omega) (by simp only [maxLen] at h63; omega) (growslice_fits (by omega) hbytes)
    have hge := grownCap_ge w (n + m) c e
    have hcm2 : grownCap w (n + m) c e ≤ maxLen := grownCap_le_maxLen w (n + m) c e h63
    refine ⟨_, _, _, _, hr, ⟨hlen, hge, hcm2, hbase, _, heap_alloc_new w.drew _, ?_, ?_⟩, ⟨rfl, rfl, rfl, by simp, fun k hk _ => Below.heap_alloc w.drew _ k hk⟩, .inr rfl, hrd.drew.alloc _⟩
    · simp only [Array.size_append, List.size_toArray, size_zeroCells, hzs, hx, hl, ← Nat.add_mul, Nat.zero_add]
      refine Nat.le_of_eq ?_
      congr 1
      omega
    · simp only [Array.toList_append, List.append_assoc, List.drop_zero]
      rw [← List.append_assoc, ← hlen]
      exact List.take_left
end
section
variable (w : World) {ops : Array Oper} {rest : List Oper} {o : Oper} {a : Act} {Q : Exit → Act → World → Prop}
theorem app_QI2 (hgd : o.guard = none) (s x : Operand) (ho : o.op = .call { callee := .builtin .append, args := #[s, x], argTypes := #[22, 22] })
    (base g off n c : Nat) (l : List Int) (hs : a.eval s = .slice (some ⟨g, off, none⟩) n c) (hown : World.ownsQ w base 3 1 g off n c (vI l))
    (g2 m c2 : Nat) (l2 : List Int) (hx : a.eval x = .slice (some ⟨g2, 0, none⟩) m c2) (hr : ∀ j u, (vI l2)[j]? = some u → w.cell? ((⟨g2, 0, none⟩ : Addr).add j) = some u) (hl : l2.length = m) (hb : n + m ≤ 1099511627776) (hbase : base ≤ w.heap.size)
    (h : ∀ g' off' c' w', World.ownsQ w' base 3 1 g' off' (n + m) c' (vI (l ++ l2)) → w.grownBy w' (some g) → (g' = g ∧ off' = off ∨ g' = w.heap.size) → Rd w' (some ⟨g, off, none⟩) (vI l) → wpList Tryz.prog ops Q rest (a.put o.dst (.slice (some ⟨g', off', none⟩) (n + m) c')) w') :
    wpList Tryz.prog ops Q (o :: rest) a w := by
  obtain ⟨i0, hi, hz0, hz1, hz2⟩ := info_parts infoI
  refine wpList_plain hgd fun K hK => ?_
  obtain ⟨g', off', c', w', hrun, h2, h3, h4, h5⟩ := run_append_Q2 (P := Tryz.prog) w 22 o.type i0 _ 8 Tryz.underlying22 hi hz0 hz1 hz2 rfl hown ⟨g2, 0, none⟩ m c2 (vI l2) (by rw [vI_length, hl]; omega) hr (vI_one _) (by unfold maxLen; omega) (by omega) hbase
  rw [← vI_append] at h2
  unfold Oper.wp execOp
  simp only [ho, resolve, invoke, builtin, Sem.run_bind, Sem.run_pure, Result.andThen_ok, List.map_toArray, List.map_cons, List.map_nil, hs, hx, hrun]
  exact hK _ _ (h g' off' c' w' h2 h3 h4 h5)
end
theorem newI_cells (w : World) (t : TypeId) (x : Int) : ∀ j u, (vI [x])[j]? = some u → (w.alloc (.cells #[.int .i64 x] t)).cell? ((⟨w.heap.size, 0, none⟩ : Addr).add j) = some u := by
  intro j u hu
  have h := rd_newI w t x
  rcases h with h | ⟨g, off, he, h⟩
  · simp [vI] at h
  · injection he with he; injection he with h1 h2; subst h1 h2
    have := h j u hu
    have hadd : (⟨w.heap.size, 0, none⟩ : Addr).add j = ⟨w.heap.size, 0 + j, none⟩ := by unfold Addr.add; split <;> simp_all
    rw [hadd]; exact this
end Go.Proofs.YtcgjnonlndaoeaaGreatDoor

/- The area of a region, its cells, all parts of a mask, small problems: walks. -/
namespace Go.Proofs.YtcgjnonlndaoeaaGreatDoor
open Go.RowKit
set_option linter.unusedVariables false
attribute [local go_sem ↓] Go.wp_at_zero Go.wp_at_succ

theorem pop_le (x : Nat) : pop x ≤ 64 := by unfold pop; have h := List.countP_le_length (p := fun i => x.testBit i) (l := List.range 64); simpa using h
theorem area_le (rows : List Int) : ∀ k, areaTo rows k ≤ 64 * k
  | 0 => Nat.le_refl _
  | k + 1 => by
    show areaTo rows k + pop _ ≤ _
    have h1 := area_le rows k
    have h2 := pop_le (rows.getD k 0).toNat
    omega
theorem AreaOf_i (W : Int) (A : Option Addr) (n c : Nat) (rows : List Int) (w : World) (hr : Rd w A (vI rows)) (hl : rows.length = n) :
    Calls Tryz.prog 48 #[.agg #[.int .i64 W, .slice A n c]] w (Ret w (.int .i64 (areaV W rows))) := by
  have HL := Lib.hid hl
  have HR := Lib.hid (hr.alloc (.cells #[.int .i64 W, .slice A n c] 29))
  have HB1 := Lib.hid (Blk.new w 29 #[.int .i64 W, .slice A n c])
  have hbw1 : Below w.heap.size w (w.alloc (.cells #[.int .i64 W, .slice A n c] 29)) := bel_alloc (Below.refl _ _) _
  cases hv : isReg W rows with
  | false =>
    have HV : Hid (areaV W rows = -1) := by show _ = _; unfold areaV; rw [hv]; rfl
    have HT := Lib.hid hv
    clear hv hl hr HB1
    go_enter Tryz.func48, Tryz.ntmps48
    go_wp2_with fail
    refine (IsRegion_i _ _ _ _ rows _ HR.out HL.out).mono ?_
    rw [HT.out]
    rintro e w1 ⟨rfl, hb1⟩
    go_wp2_with fail
    go_ret
    exact ⟨by rw [HV.out]; rfl, bel_trans hbw1 hb1⟩
  | true =>
    have HT := Lib.hid hv
    obtain ⟨m, rfl, hm1, hm6, hn1, hn6, hrow⟩ := isReg_yes hv
    have hV : areaV (m : Int) rows = ((areaTo rows n : Nat) : Int) := by
      unfold areaV
      rw [if_pos hv, ← hl, area_len hm6 hrow rows.length (Nat.le_refl _)]
      unfold cellsC
      rw [if_pos hv]
    rw [hl] at hn1 hn6
    have HV := Lib.hid hV
    have HROW := Lib.hid hrow
    clear hv hl hr hV hrow
    go_enter Tryz.func48, Tryz.ntmps48
    go_wp2_with fail
    refine (IsRegion_i _ _ _ _ rows _ HR.out HL.out).mono ?_
    rw [HT.out]
    rintro e w1 ⟨rfl, hb1⟩
    have hB := HB1.out.below hb1
    have b1 : w1.cell? ⟨w.heap.size, 1, none⟩ = some (.slice A n c) := by simpa using hB.cell 1
    have hgw := hB.lt
    have HR1 := Lib.hid (HR.out.below hb1)
    have hbw := bel_trans hbw1 hb1
    clear hB HR HB1 hbw1 hb1
    go_wp2_with fail
    go_loopw [12, 3] (fun e12 e3 wr => ∃ k a : Nat, k ≤ n ∧ e12 = .int .i64 k ∧ e3 = .int .i64 (a : Int) ∧ a = areaTo rows k ∧ Below w1.heap.size w1 wr) (fun e12 _ _ => n - (intOf e12).toNat)
    case atStart => exact ⟨0, 0, Nat.zero_le _, rfl, rfl, rfl, Below.refl _ _⟩
    case round =>
      obtain ⟨k, a, hk, rfl, rfl, ha, hb⟩ := hrel
      have hale : a ≤ 64 * k := by rw [ha]; exact area_le rows k
      by_cases hlt : k < n
      · have hkl : k < rows.length := by rw [HL.out]; exact hlt
        have hk0 : (0 : Int) ≤ (k : Int) := by omega
        have hk1 : (k : Int) < (n : Int) := by omega
        obtain ⟨g, off, hA, hg, d1⟩ := RdI.at_ (HR1.out.below hb) hkl
        obtain ⟨z, hq, hq36⟩ := HROW.out k hkl
        have hz62 : z < 2 ^ 62 := Nat.lt_of_lt_of_le hq36 (Nat.pow_le_pow_right (by decide) (by omega))
        have hst : areaTo rows (k + 1) = a + pop z := by
          show areaTo rows k + pop (rows.getD k 0).toNat = _
          rw [ha, List.getD_eq_getElem?_getD, List.getElem?_eq_getElem hkl, Option.getD_some, hq]
          rfl
        rw [hq] at d1
        have hcv : IntKind.u64.wrap (z : Int) = (z : Int) := wraps_u64 _ (by omega) (by omega)
        have hpl := pop_le z
        obtain ⟨pz, hpz⟩ : ∃ pz, pop z = pz := ⟨_, rfl⟩
        rw [hpz] at hst hpl
        have hadd : IntKind.i64.wrap ((a : Int) + (pz : Int)) = (a : Int) + (pz : Int) := Go.IntWalk.i64_in _ (by omega)
        have HST := Lib.hid hst
        have HZ := Lib.hid hz62
        have HPZ := Lib.hid hpz
        subst hA
        clear hq hq36 hz62 hst hpz ha
        go_wp2_with fail
        refine (OnesCount_l z _ HZ.out).mono ?_
        rw [HPZ.out]
        rintro e w2 ⟨rfl, hb2⟩
        go_wp2_with fail
        exact ⟨⟨k + 1, a + pz, by omega, by go_num, by simp, HST.out.symm, bel_trans hb hb2⟩, by simp [intOf]; omega⟩
      · obtain rfl : k = n := by omega
        have HA := Lib.hid ha
        have hk1 : ¬ (k : Int) < (k : Int) := by omega
        clear ha
        go_wp2_with fail
        go_ret
        exact ⟨by rw [HV.out, ← HA.out]; rfl, bel_trans hbw hb⟩

set_option maxHeartbeats 1600000 in
theorem CellsOf_s (W : Int) (A : Option Addr) (n c : Nat) (rows : List Int) (w : World) (hr : Rd w A (vI rows)) (hl : rows.length = n) (hv : isReg W rows = true) :
    Calls Tryz.prog 57 #[.agg #[.int .i64 W, .slice A n c]] w (RetS w 77 2 (vC (cellsC W rows))) := by
  have hC : cellsC W rows = cyTo W rows n := by unfold cellsC; rw [if_pos hv, hl]
  have HT := Lib.hid hv
  obtain ⟨m, rfl, hm1, hm6, hn1, hn6, hrow⟩ := isReg_yes hv
  rw [hl] at hn1 hn6
  obtain ⟨W0, hW0⟩ : ∃ W0, w.alloc (.cells #[.int .i64 (m : Int), .slice A n c] 29) = W0 := ⟨_, rfl⟩
  have hsz : W0.heap.size = w.heap.size + 1 := by rw [← hW0]; simp
  have hI0 : (W0.alloc (.cells #[] 77)).ownsRow W0.heap.size 77 2 (.slice (some ⟨w.heap.size + 1, 0, none⟩) 0 0) 0 (vC []) := by
    have h := own_new W0 77 2 0 #[] rfl (by simp [maxLen]) (Nat.le_refl _)
    rw [hsz] at h ⊢
    exact h
  have HI0 := Lib.hid hI0
  have HC := Lib.hid hC
  have HL := Lib.hid hl
  have HR := Lib.hid (hr.alloc (.cells #[.int .i64 (m : Int), .slice A n c] 29))
  have HB1 := Lib.hid (Blk.new w 29 #[.int .i64 (m : Int), .slice A n c])
  have hbw0 : Below w.heap.size w (w.alloc (.cells #[.int .i64 (m : Int), .slice A n c] 29)) := bel_alloc (Below.refl _ _) _
  rw [hW0] at HR HB1 hbw0
  have hbs0 : w.heap.size ≤ W0.heap.size := by omega
  have HW0 := Lib.hid hW0
  have hmt : ((m : Int)).toNat = m := Int.toNat_natCast _
  have HMT := Lib.hid hmt
  clear hv hl hr hC hI0 hrow hW0 hsz hmt
  go_enter Tryz.func57, Tryz.ntmps57
  go_wp2_with fail
  rw [HW0.out]
  clear HW0
  go_loopw [4, 3] (fun e4 e3 wr => ∃ (y q cq : Nat) (D : Option Addr), y ≤ n ∧ q ≤ 6 * y ∧ e4 = .int .i64 y ∧ e3 = .slice D q cq ∧ wr.ownsRow W0.heap.size 77 2 (.slice D q cq) q (vC (cyTo (m : Int) rows y)) ∧ Below W0.heap.size W0 wr) (fun e4 _ _ => n - (intOf e4).toNat)
  case atStart => exact ⟨0, 0, 0, _, Nat.zero_le _, Nat.zero_le _, rfl, rfl, HI0.out, bel_alloc (Below.refl _ _) _⟩
  case round =>
    clear HI0
    obtain ⟨y, q, cq, D, hy, hq, rfl, rfl, hO, hb⟩ := hrel
    have HO := Lib.hid hO
    clear hO
    have hB := HB1.out.below hb
    have b0 : wr.cell? ⟨w.heap.size, 0, none⟩ = some (.int .i64 (m : Int)) := by simpa using hB.cell 0
    have b1 : wr.cell? ⟨w.heap.size, 1, none⟩ = some (.slice A n c) := by simpa using hB.cell 1
    have hgw := hB.lt
    clear hB
    by_cases hlt : y < n
    · have hy0 : (0 : Int) ≤ (y : Int) := by omega
      have hy1 : (y : Int) < (n : Int) := by omega
      go_wp2_with fail
      refine (IsRegion_s _ _ _ _ rows _ (HR.out.below hb) HL.out).mono ?_
      rw [HT.out]
      rintro e w2 ⟨rfl, hb2⟩
      have HO2 := Lib.hid (own_keep HO.out hb2)
      have hb02 := bel_trans hb hb2
      clear b0 b1 hgw HO hb hb2
      go_wp2_with fail
      go_loopw [5, 3] (fun e5 e3 wr2 => ∃ (x q cq : Nat) (D : Option Addr), x ≤ m ∧ q ≤ 6 * y + x ∧ e5 = .int .i64 x ∧ e3 = .slice D q cq ∧ wr2.ownsRow W0.heap.size 77 2 (.slice D q cq) q (vC (cyTo (m : Int) rows y ++ cxTo (m : Int) rows y x)) ∧ Below W0.heap.size W0 wr2) (fun e5 _ _ => m - (intOf e5).toNat)
      case atStart => exact ⟨0, q, cq, D, Nat.zero_le _, by omega, rfl, rfl, by simpa [cxTo] using HO2.out, hb02⟩
      case round =>
        clear HO2 hb02 hq
        obtain ⟨x, q, cq, D, hx, hq, rfl, rfl, hO, hb⟩ := hrel
        have hB := HB1.out.below hb
        have b0 : wr.cell? ⟨w.heap.size, 0, none⟩ = some (.int .i64 (m : Int)) := by simpa using hB.cell 0
        have b1 : wr.cell? ⟨w.heap.size, 1, none⟩ = some (.slice A n c) := by simpa using hB.cell 1
        have hgw := hB.lt
        clear hB
        by_cases hxm : x < m
        · have hx0 : (0 : Int) ≤ (x : Int) := by omega
          have hx1 : (x : Int) < (m : Int) := by omega
          have hst : cxTo (m : Int) rows y (x + 1) = cxTo (m : Int) rows y x ++ (if hasR (m : Int) rows ((x : Int), (y : Int)) then [((x : Int), (y : Int))] else []) := rfl
          cases hh : hasR (m : Int) rows ((x : Int), (y : Int)) with
          | false =>
            rw [hh] at hst
            simp only [Bool.false_eq_true, if_false, List.append_nil] at hst
            have HH := Lib.hid hh
            have HO := Lib.hid hO
            have HST := Lib.hid hst
            clear hO hst hh
            go_wp2_with fail
            refine (l6In_s (m : Int) A n c rows (x : Int) (y : Int) _ (HR.out.below hb) HL.out HT.out (by omega) (by omega)).mono ?_
            rw [HH.out]
            rintro e w3 ⟨rfl, hb3⟩
            go_wp2_with fail
            exact ⟨⟨x + 1, q, cq, D, by omega, by omega, by go_num, rfl, by rw [HST.out]; exact own_keep HO.out hb3, bel_trans hb hb3⟩, by simp [intOf]; omega⟩
          | true =>
            rw [hh] at hst
            simp only [if_true] at hst
            have HH := Lib.hid hh
            have HO := Lib.hid hO
            have HST := Lib.hid hst
            clear hO hst hh
            go_wp2_with fail
            refine (l6In_s (m : Int) A n c rows (x : Int) (y : Int) _ (HR.out.below hb) HL.out HT.out (by omega) (by omega)).mono ?_
            rw [HH.out]
            rintro e w3 ⟨rfl, hb3⟩
            have HO3 := Lib.hid (own_keep HO.out hb3)
            have hb03 := bel_trans hb hb3
            have hbz := hb03.size
            clear b0 b1 hgw HO hb hb3
            go_wp2_with (at_builtin; go_must (refine app_C _ rfl _ _ rfl W0.heap.size _ _ _ _ rfl (HO3.out.alloc _) _ _ _ [((x : Int), (y : Int))] rfl (rd_newC _ _ _ _) rfl (by omega) (by simp; omega) ?_); intro D2 cp2 w8 ho8 hg8 hat8; have HO8 := Lib.hid ho8; have HG8 := Lib.hid hg8; clear ho8 hg8 hat8)
            exact ⟨⟨x + 1, q + 1, cp2, D2, by omega, by omega, by go_num, rfl, by rw [HST.out, ← List.append_assoc]; exact HO8.out, bel_app (bel_alloc hb03 _) HG8.out (fun g' hg1 => ((own_lt HO3.out) g' hg1).1)⟩, by simp [intOf]; omega⟩
        · obtain rfl : x = m := by omega
          have hst : cyTo (x : Int) rows (y + 1) = cyTo (x : Int) rows y ++ cxTo (x : Int) rows y x := by show cyTo (x : Int) rows y ++ cxTo (x : Int) rows y ((x : Int)).toNat = _; rw [HMT.out]
          have HST := Lib.hid hst
          have HO := Lib.hid hO
          have hx1 : ¬ (x : Int) < (x : Int) := by omega
          clear hO hst
          go_wp2_with fail
          exact ⟨⟨y + 1, q, cq, D, by omega, by omega, by go_num, rfl, by rw [HST.out]; exact HO.out, hb⟩, by simp [intOf]; omega⟩
    · obtain rfl : y = n := by omega
      have hy1 : ¬ (y : Int) < (y : Int) := by omega
      go_wp2_with fail
      go_ret
      exact ⟨_, _, _, rfl, by rw [HC.out]; exact own_base HO.out hbs0, bel_trans hbw0 hb⟩
theorem AreaOf_s (W : Int) (A : Option Addr) (n c : Nat) (rows : List Int) (w : World) (hr : Rd w A (vI rows)) (hl : rows.length = n) :
    Calls Tryz.prog 42 #[.agg #[.int .i64 W, .slice A n c]] w (Ret w (.int .i64 (areaV W rows))) := by
  have HL := Lib.hid hl
  have HR := Lib.hid (hr.alloc (.cells #[.int .i64 W, .slice A n c] 29))
  have HB1 := Lib.hid (Blk.new w 29 #[.int .i64 W, .slice A n c])
  have hbw1 : Below w.heap.size w (w.alloc (.cells #[.int .i64 W, .slice A n c] 29)) := bel_alloc (Below.refl _ _) _
  cases hv : isReg W rows with
  | false =>
    have HV : Hid (areaV W rows = -1) := by show _ = _; unfold areaV; rw [hv]; rfl
    have HT := Lib.hid hv
    clear hv hl hr HB1
    go_enter Tryz.func42, Tryz.ntmps42
    go_wp2_with fail
    refine (IsRegion_s _ _ _ _ rows _ HR.out HL.out).mono ?_
    rw [HT.out]
    rintro e w1 ⟨rfl, hb1⟩
    go_wp2_with fail
    go_ret
    exact ⟨by rw [HV.out]; rfl, bel_trans hbw1 hb1⟩
  | true =>
    have HT := Lib.hid hv
    have HV : Hid (areaV W rows = (((cellsC W rows).length : Nat) : Int)) := by show _ = _; unfold areaV; rw [if_pos hv]
    clear hv hl hr
    go_enter Tryz.func42, Tryz.ntmps42
    go_wp2_with fail
    refine (IsRegion_s _ _ _ _ rows _ HR.out HL.out).mono ?_
    rw [HT.out]
    rintro e w1 ⟨rfl, hb1⟩
    have hB := HB1.out.below hb1
    have b0 : w1.cell? ⟨w.heap.size, 0, none⟩ = some (.int .i64 W) := by simpa using hB.cell 0
    have b1 : w1.cell? ⟨w.heap.size, 1, none⟩ = some (.slice A n c) := by simpa using hB.cell 1
    have hgw := hB.lt
    have HR1 := Lib.hid (HR.out.below hb1)
    have hbw := bel_trans hbw1 hb1
    clear hB HR HB1 hbw1 hb1
    go_wp2_with fail
    refine (CellsOf_s W A n c rows _ HR1.out HL.out HT.out).mono ?_
    rintro e w2 ⟨D, q, cq, rfl, hO, hb2⟩
    have hq : (cellsC W rows).length = q := by have := own_len hO; rw [vC_length] at this; omega
    have HQ := Lib.hid hq
    clear hO hq b0 b1
    go_wp2_with fail
    go_ret
    exact ⟨by rw [HV.out, HQ.out]; rfl, bel_trans hbw hb2⟩
set_option maxHeartbeats 1600000 in
theorem isSmall_i (W : Int) (A B : Option Addr) (n c q cb : Nat) (rows : List Int) (hs : List H) (P : List (List C)) (w : World) (hr : Rd w A (vI rows)) (hl : rows.length = n) (hp : RdP w B q hs P) (hq : q ≤ 1048576) (hm : totC P ≤ 1048576) :
    Calls Tryz.prog 45 #[.agg #[.int .i64 W, .slice A n c], .slice B q cb] w (Ret w (.bool (smallV W rows P))) := by
  have HL := Lib.hid hl
  have HR := Lib.hid (hr.alloc (.cells #[.int .i64 W, .slice A n c] 29))
  have HP := Lib.hid (hp.alloc (.cells #[.int .i64 W, .slice A n c] 29))
  have HB1 := Lib.hid (Blk.new w 29 #[.int .i64 W, .slice A n c])
  have HM := Lib.hid hm
  have hbw1 : Below w.heap.size w (w.alloc (.cells #[.int .i64 W, .slice A n c] 29)) := bel_alloc (Below.refl _ _) _
  clear hl hr hp hm
  cases hv : (isReg W rows && pcs P) with
  | false =>
    have HS : Hid (smallV W rows P = false) := by show _ = _; unfold smallV; rw [hv]; rfl
    have HV := Lib.hid hv
    clear hv
    go_enter Tryz.func45, Tryz.ntmps45
    go_wp2_with fail
    refine (isProblem_i W A B n c q cb rows hs P _ HR.out HL.out HP.out hq HM.out).mono ?_
    rw [HV.out]
    rintro e w1 ⟨rfl, hb1⟩
    go_wp2_with fail
    go_ret
    exact ⟨by rw [HS.out]; rfl, bel_trans hbw1 hb1⟩
  | true =>
    have HS : Hid (smallV W rows P = decide (areaV W rows ≤ 12)) := by show _ = _; unfold smallV; rw [hv]; rfl
    have HV := Lib.hid hv
    clear hv
    go_enter Tryz.func45, Tryz.ntmps45
    go_wp2_with fail
    refine (isProblem_i W A B n c q cb rows hs P _ HR.out HL.out HP.out hq HM.out).mono ?_
    rw [HV.out]
    rintro e w1 ⟨rfl, hb1⟩
    have hB := HB1.out.below hb1
    have b0 : w1.cell? ⟨w.heap.size, 0, none⟩ = some (.int .i64 W) := by simpa using hB.cell 0
    have b1 : w1.cell? ⟨w.heap.size, 1, none⟩ = some (.slice A n c) := by simpa using hB.cell 1
    have hgw := hB.lt
    clear hB
    go_wp2_with fail
    refine (AreaOf_i W A n c rows _ (HR.out.below hb1) HL.out).mono ?_
    rintro e w2 ⟨rfl, hb2⟩
    go_wp2_with fail
    go_ret
    exact ⟨by rw [HS.out]; rfl, bel_trans (bel_trans hbw1 hb1) hb2⟩
set_option maxHeartbeats 1600000 in
theorem l20Fine_s (W : Int) (A B : Option Addr) (n c q cb : Nat) (rows : List Int) (hs : List H) (P : List (List C)) (w : World) (hr : Rd w A (vI rows)) (hl : rows.length = n) (hp : RdP w B q hs P) (hq : q ≤ 1048576) (hm : totC P ≤ 1048576) :
    Calls Tryz.prog 40 #[.agg #[.int .i64 W, .slice A n c], .slice B q cb] w (Ret w (.bool (smallV W rows P))) := by
  have HL := Lib.hid hl
  have HR := Lib.hid (hr.alloc (.cells #[.int .i64 W, .slice A n c] 29))
  have HP := Lib.hid (hp.alloc (.cells #[.int .i64 W, .slice A n c] 29))
  have HB1 := Lib.hid (Blk.new w 29 #[.int .i64 W, .slice A n c])
  have HM := Lib.hid hm
  have hbw1 : Below w.heap.size w (w.alloc (.cells #[.int .i64 W, .slice A n c] 29)) := bel_alloc (Below.refl _ _) _
  clear hl hr hp hm
  cases hv : isReg W rows with
  | false =>
    have HS : Hid (smallV W rows P = false) := by show _ = _; unfold smallV; rw [hv]; rfl
    have HV := Lib.hid hv
    clear hv
    go_enter Tryz.func40, Tryz.ntmps40
    go_wp2_with fail
    refine (IsRegion_s _ _ _ _ rows _ HR.out HL.out).mono ?_
    rw [HV.out]
    rintro e w1 ⟨rfl, hb1⟩
    go_wp2_with fail
    go_ret
    exact ⟨by rw [HS.out]; rfl, bel_trans hbw1 hb1⟩
  | true =>
    cases hpc : pcs P with
    | false =>
      have HS : Hid (smallV W rows P = false) := by show _ = _; unfold smallV; rw [hv, hpc]; rfl
      have HV := Lib.hid hv
      have HPC := Lib.hid hpc
      clear hv hpc
      go_enter Tryz.func40, Tryz.ntmps40
      go_wp2_with fail
      refine (IsRegion_s _ _ _ _ rows _ HR.out HL.out).mono ?_
      rw [HV.out]
      rintro e w1 ⟨rfl, hb1⟩
      go_wp2_with fail
      refine (ArePieces_s B q cb hs P _ (HP.out.below hb1) hq HM.out).mono ?_
      rw [HPC.out]
      rintro e w2 ⟨rfl, hb2⟩
      go_wp2_with fail
      go_ret
      exact ⟨by rw [HS.out]; rfl, bel_trans (bel_trans hbw1 hb1) hb2⟩
    | true =>
      have HS : Hid (smallV W rows P = decide (areaV W rows ≤ 12)) := by show _ = _; unfold smallV; rw [hv, hpc]; rfl
      have HV := Lib.hid hv
      have HPC := Lib.hid hpc
      clear hv hpc
      go_enter Tryz.func40, Tryz.ntmps40
      go_wp2_with fail
      refine (IsRegion_s _ _ _ _ rows _ HR.out HL.out).mono ?_
      rw [HV.out]
      rintro e w1 ⟨rfl, hb1⟩
      go_wp2_with fail
      refine (ArePieces_s B q cb hs P _ (HP.out.below hb1) hq HM.out).mono ?_
      rw [HPC.out]
      rintro e w2 ⟨rfl, hb2⟩
      have hb12 := bel_trans hb1 hb2
      have hB := HB1.out.below hb12
      have b0 : w2.cell? ⟨w.heap.size, 0, none⟩ = some (.int .i64 W) := by simpa using hB.cell 0
      have b1 : w2.cell? ⟨w.heap.size, 1, none⟩ = some (.slice A n c) := by simpa using hB.cell 1
      have hgw := hB.lt
      clear hB
      go_wp2_with fail
      refine (AreaOf_s W A n c rows _ (HR.out.below hb12) HL.out).mono ?_
      rintro e w3 ⟨rfl, hb3⟩
      go_wp2_with fail
      go_ret
      exact ⟨by rw [HS.out]; rfl, bel_trans (bel_trans hbw1 hb12) hb3⟩
end Go.Proofs.YtcgjnonlndaoeaaGreatDoor

/- Coverings with fewest masks: the reference. -/
namespace Go.Proofs.YtcgjnonlndaoeaaGreatDoor
open Go.RowKit
set_option linter.unusedVariables false
attribute [local go_sem ↓] Go.wp_at_zero Go.wp_at_succ

set_option maxRecDepth 100000 in
set_option maxHeartbeats 3200000 in
theorem FewestCovering_s (W : Int) (A B : Option Addr) (n c q cb : Nat) (rows : List Int) (hs : List H) (P : List (List C)) (w : World) (hr : Rd w A (vI rows)) (hl : rows.length = n) (hp : RdP w B q hs P) (hq : q ≤ 1048576) (hm : totC P ≤ 1048576) :
    Calls Tryz.prog 14 #[.agg #[.int .i64 W, .slice A n c], .slice B q cb] w (RetS2 w 3 1 (vI (fewL W rows P)) (.bool (fewcV W rows P).isSome)) := by
  have HL := Lib.hid hl
  have HR := Lib.hid (hr.alloc (.cells #[.int .i64 W, .slice A n c] 29))
  have HP := Lib.hid (hp.alloc (.cells #[.int .i64 W, .slice A n c] 29))
  have HB0 := Lib.hid (Blk.new w 29 #[.int .i64 W, .slice A n c])
  have HM := Lib.hid hm
  have hbw0 : Below w.heap.size w (w.alloc (.cells #[.int .i64 W, .slice A n c] 29)) := bel_alloc (Below.refl _ _) _
  skip
  clear hl hr hp hm
  have HB1 : Hid (∀ {w1 : World}, Below (w.alloc (.cells #[.int .i64 W, .slice A n c] 29)).heap.size (w.alloc (.cells #[.int .i64 W, .slice A n c] 29)) w1 → w1.cell? ⟨w.heap.size, 0, none⟩ = some (.int .i64 W) ∧ w1.cell? ⟨w.heap.size, 1, none⟩ = some (.slice A n c) ∧ w.heap.size < w1.heap.size) := fun h => by
    have hB := HB0.out.below h
    exact ⟨by simpa using hB.cell 0, by simpa using hB.cell 1, hB.lt⟩
  have hfr0 : ∀ u : World, w.heap.size ≤ u.heap.size → (u.alloc (.cells #[] 3)).ownsRow w.heap.size 3 1 (.slice (some ⟨u.heap.size, 0, none⟩) 0 0) 0 (vI []) := fun u hu => own_new u _ 1 0 #[] rfl (by simp [maxLen]) hu
  have HF0 := Lib.hid hfr0
  clear hfr0
  cases hsm : smallV W rows P with
  | false =>
    have hV := fewL_of (W := W) (rows := rows) (P := P) (o := none) (by unfold fewcV; rw [hsm]; rfl)
    have HV := Lib.hid hV
    have HS := Lib.hid hsm
    clear hsm hV
    go_enter Tryz.func14, Tryz.ntmps14
    go_wp2_with fail
    refine (l20Fine_s W A B n c q cb rows hs P _ HR.out HL.out HP.out hq HM.out).mono ?_
    rw [HS.out]
    rintro e w1 ⟨rfl, hb1⟩
    have HB2 := Lib.hid (bel_trans hbw0 hb1)
    clear hb1
    go_wp2_with fail
    go_ret2
    exact ⟨_, _, _, by rw [HV.out.2]; rfl, by rw [HV.out.1]; simp only [Option.getD_none]; rw [ord_nil]; exact HF0.out w1 HB2.out.size, bel_alloc HB2.out _⟩
  | true =>
    obtain ⟨hvr, hpc, a, ha, ha12⟩ := small_parts hsm
    have hfc : fewcV W rows P = fewTo (allV W rows P) (maskV W rows) (a + 1) := by unfold fewcV; rw [if_pos hsm, ha, Int.toNat_natCast]
    have hLm := allV_msk W rows P
    have hLl := allV_len W rows P
    have hp5 := (pcs_at hpc).1
    have hin := allV_in (P := P) hvr
    have hM36 := mask36C W rows
    obtain ⟨L, hL⟩ : ∃ L, allV W rows P = L := ⟨_, rfl⟩
    obtain ⟨M, hMM⟩ : ∃ M, maskV W rows = M := ⟨_, rfl⟩
    rw [hL] at hLm hLl hin hfc
    rw [hMM] at hin hM36 hfc
    have hL5 : L.length ≤ 1440 := by omega
    have hor := orL_lt hLm
    have hreach : orL L L.length ≠ M → fewTo L M (a + 1) = none := fun hne => fewTo_none fun k _ => by
      cases hc : covP L k M with
      | none => rfl
      | some p => exact absurd (cov_reach (by omega) hin hc) hne
    have HV := Lib.hid (fun o (h : fewTo L M (a + 1) = o) => fewL_of (hfc.trans h))
    have HRE := Lib.hid hreach
    have HOR := Lib.hid hor
    have HS := Lib.hid hsm
    have HVR := Lib.hid hvr
    have HPC := Lib.hid hpc
    have HLE := Lib.hid hL
    have HLM := Lib.hid hLm
    have HL5 := Lib.hid hL5
    have HA := Lib.hid ha
    have HMM := Lib.hid hMM
    have HM36 := Lib.hid hM36
    clear hsm hvr hpc hL hMM hLm hLl hp5 hin hL5 hor hreach ha hfc hM36
    go_enter Tryz.func14, Tryz.ntmps14
    go_wp2_with fail
    refine (l20Fine_s W A B n c q cb rows hs P _ HR.out HL.out HP.out hq HM.out).mono ?_
    rw [HS.out]
    rintro e w1 ⟨rfl, hb1⟩
    obtain ⟨b0, b1, bl⟩ := HB1.out hb1
    go_wp2_with fail
    refine (AllPlacements_s W A B n c q cb rows hs P _ (HR.out.below hb1) HL.out HVR.out (HP.out.below hb1) HPC.out).mono ?_
    rw [HLE.out]
    rintro e w2 ⟨gE0, q3, c3, rfl, hO, hb2⟩
    obtain ⟨gE, hgE⟩ : ∃ gE, some (⟨gE0, 0, none⟩ : Addr) = gE := ⟨_, rfl⟩
    rw [hgE] at hO ⊢
    clear hgE
    have hq3 : L.length = q3 := by have := own_len hO; rw [vI_length] at this; omega
    have HQ3 := Lib.hid hq3
    have HRE2 := Lib.hid (Rd.of_own hO)
    have hq4 : q3 ≤ 1440 := by have := HL5.out; omega
    have HB12 := Lib.hid (bel_trans hb1 hb2)
    clear hO hq3 b0 b1 bl hb1 hb2
    go_wp2_with fail
    go_loopw [8, 7] (fun e8 e7 wr => ∃ i r : Nat, i ≤ q3 ∧ e8 = .int .i64 i ∧ e7 = .int .i64 (r : Int) ∧ r = orL L i ∧ Below w2.heap.size w2 wr) (fun e8 _ _ => q3 - (intOf e8).toNat)
    case atStart => exact ⟨0, 0, Nat.zero_le _, rfl, rfl, rfl, Below.refl _ _⟩
    case round =>
      obtain ⟨i, r, hi, rfl, rfl, hro, hb⟩ := hrel
      have HRO := Lib.hid hro
      have HB := Lib.hid hb
      have hr36 : r < 2 ^ 36 := by rw [hro]; exact HOR.out i (by rw [HQ3.out]; exact hi)
      clear hro hb
      by_cases hlt : i < q3
      · have hi0 : (0 : Int) ≤ (i : Int) := by omega
        have hi1 : (i : Int) < (q3 : Int) := by omega
        have hil : i < L.length := by rw [HQ3.out]; exact hlt
        obtain ⟨g, off, hAE, hg, d1⟩ := RdI.at_ (HRE2.out.below HB.out) hil
        obtain ⟨x, hx, hx36⟩ := HLM.out _ (List.getElem_mem hil)
        rw [hx] at d1
        have hst := orL_succ L hil
        rw [hx, Int.toNat_natCast, ← HRO.out] at hst
        obtain ⟨u, hu⟩ : ∃ u, r ||| x = u := ⟨_, rfl⟩
        have hbor : bits .or .i64 (r : Int) (x : Int) = (u : Int) := by rw [i64_or r x (by omega) (by omega), hu]
        rw [hu] at hst
        have HST := Lib.hid hst
        subst hAE
        clear hst hu hx hx36 hr36
        go_wp2_with fail
        exact ⟨⟨i + 1, u, by omega, by go_num, rfl, HST.out.symm, HB.out⟩, by simp [intOf]; omega⟩
      · obtain rfl : i = q3 := by omega
        have hi1 : ¬ (i : Int) < (i : Int) := by omega
        have hrr : r = orL L L.length := by rw [HQ3.out]; exact HRO.out
        have HRR := Lib.hid hrr
        have HB2 := Lib.hid (bel_trans HB12.out HB.out)
        have HBW := Lib.hid (bel_trans hbw0 HB2.out)
        have hM62 : M < 2 ^ 62 := by have := HM36.out; omega
        clear hrr hr36 HRO
        by_cases hrm : r = M
        · have hrI : ((r : Int) == (M : Int)) = true := by simp [hrm]
          clear hrm HRE
          obtain ⟨b0, b1, bl⟩ := HB1.out HB2.out
          go_wp2_with fail
          go_loopw [9] (fun e9 wr2 => ∃ k : Nat, k ≤ a + 1 ∧ e9 = .int .i64 k ∧ fewTo L M k = none ∧ Below wr.heap.size wr wr2) (fun e9 _ => a + 1 - (intOf e9).toNat)
          case atStart => exact ⟨0, Nat.zero_le _, rfl, rfl, Below.refl _ _⟩
          case round =>
            clear b0 b1 bl
            obtain ⟨k, hk, rfl, hno, hb4⟩ := hrel
            have HNO := Lib.hid hno
            have HB4 := Lib.hid (bel_trans HB2.out hb4)
            have HB5 := Lib.hid (bel_trans HB.out hb4)
            have HBS := Lib.hid hb4
            clear hno hb4
            obtain ⟨b0, b1, bl⟩ := HB1.out HB4.out
            go_wp2_with fail
            refine (AreaOf_s W A n c rows _ (HR.out.below HB4.out) HL.out).mono ?_
            rw [HA.out]
            rintro e w5 ⟨rfl, hb5⟩
            have HB45 := Lib.hid (bel_trans HB4.out hb5)
            have HB55 := Lib.hid (bel_trans HB5.out hb5)
            have HBT := Lib.hid (bel_trans HBS.out hb5)
            clear hb5 b0 b1 bl
            obtain ⟨b0, b1, bl⟩ := HB1.out HB45.out
            by_cases hka : k ≤ a
            · have hkI : (k : Int) ≤ (a : Int) := by omega
              go_wp2_with fail
              refine (MaskOf_s W A n c rows _ (HR.out.below HB45.out) HL.out).mono ?_
              rw [HMM.out]
              rintro e w6 ⟨rfl, hb6⟩
              have HB46 := Lib.hid (bel_trans HB45.out hb6)
              have HB56 := Lib.hid (bel_trans HB55.out hb6)
              have HBU := Lib.hid (bel_trans HBT.out hb6)
              clear hb6 b0 b1 bl
              obtain ⟨b0, b1, bl⟩ := HB1.out HB46.out
              go_wp2_with fail
              refine (MaskOf_s W A n c rows _ (HR.out.below HB46.out) HL.out).mono ?_
              rw [HMM.out]
              rintro e w7 ⟨rfl, hb7⟩
              have HB47 := Lib.hid (bel_trans HB46.out hb7)
              have HB57 := Lib.hid (bel_trans HB56.out hb7)
              have HBV := Lib.hid (bel_trans HBU.out hb7)
              clear hb7 b0 b1 bl
              go_wp2_with fail
              obtain ⟨o, ho⟩ : ∃ o, covP L k M = o := ⟨_, rfl⟩
              have hC := l21Cover_s gE i c3 L HQ3.out (by omega) HLM.out k M w7 (HRE2.out.below HB57.out) HM36.out (by omega)
              rw [ho] at hC
              have HC := Lib.hid hC
              have HO := Lib.hid ho
              clear hC ho
              cases o with
              | none =>
                have HN2 := Lib.hid (fewTo_next HNO.out HO.out)
                refine HC.out.mono ?_
                rintro e w8 ⟨g8, k8, c8, rfl, hO8, hb8⟩
                clear hO8
                have HBX := Lib.hid (bel_trans HBV.out hb8)
                clear hb8
                go_wp2_with fail
                exact ⟨⟨k + 1, by omega, by go_num, HN2.out, HBX.out⟩, by simp [intOf]; omega⟩
              | some p =>
                have hE := HV.out _ (fewTo_some HNO.out HO.out (a + 1) (by omega))
                have HE := Lib.hid hE
                refine HC.out.mono ?_
                rintro e w8 ⟨g8, k8, c8, rfl, hO8, hb8⟩
                have HO8 := Lib.hid hO8
                have HBX := Lib.hid (bel_trans hbw0 (bel_trans HB47.out hb8))
                have hsz : w.heap.size ≤ w7.heap.size := by have h1 := HB47.out.size; have h2 := hbw0.size; omega
                clear hb8 hO8 hE
                go_wp2_with fail
                go_ret2
                exact ⟨_, _, _, by rw [HE.out.2]; rfl, by rw [HE.out.1, ← putP_eq]; exact own_base HO8.out hsz, HBX.out⟩
            · have hkI : ¬ (k : Int) ≤ (a : Int) := by omega
              obtain rfl : k = a + 1 := by omega
              have HE := Lib.hid (HV.out _ HNO.out)
              have HBX := Lib.hid (bel_trans hbw0 HB45.out)
              go_wp2_with fail
              go_ret2
              exact ⟨_, _, _, by rw [HE.out.2]; rfl, by rw [HE.out.1]; simp only [Option.getD_none]; rw [ord_nil]; exact HF0.out w5 HBX.out.size, bel_alloc HBX.out _⟩
        · have hrI : ((r : Int) == (M : Int)) = false := by simp; omega
          have HE := Lib.hid (HV.out _ (HRE.out (fun e => hrm (HRR.out.trans e))))
          clear hrm HRE
          obtain ⟨b0, b1, bl⟩ := HB1.out HB2.out
          have ha0 : (0 : Int) ≤ (a : Int) := by omega
          go_wp2_with fail
          go_loopw [9] (fun e9 wr2 => e9 = .int .i64 0 ∧ wr2 = wr) (fun _ _ => 0)
          case atStart => exact ⟨rfl, rfl⟩
          case round =>
            obtain ⟨rfl, rfl⟩ := hrel
            go_wp2_with fail
            refine (AreaOf_s W A n c rows _ (HR.out.below HB2.out) HL.out).mono ?_
            rw [HA.out]
            rintro e w5 ⟨rfl, hb5⟩
            have HB45 := Lib.hid (bel_trans HB2.out hb5)
            clear hb5 b0 b1 bl
            obtain ⟨b0, b1, bl⟩ := HB1.out HB45.out
            go_wp2_with fail
            refine (MaskOf_s W A n c rows _ (HR.out.below HB45.out) HL.out).mono ?_
            rw [HMM.out]
            rintro e w6 ⟨rfl, hb6⟩
            have HBX := Lib.hid (bel_trans hbw0 (bel_trans HB45.out hb6))
            clear hb6
            go_wp2_with fail
            go_ret2
            exact ⟨_, _, _, by rw [HE.out.2]; rfl, by rw [HE.out.1]; simp only [Option.getD_none]; rw [ord_nil]; exact HF0.out w6 HBX.out.size, bel_alloc HBX.out _⟩
end Go.Proofs.YtcgjnonlndaoeaaGreatDoor

/- Headers of rows that are only read; two slices that grow side by side. -/
namespace Go.Proofs.YtcgjnonlndaoeaaGreatDoor
open Go.RowKit
set_option linter.unusedVariables false
/-- The rows behind some headers read as lists of integers, none of them empty. -/
structure RowsH (w : World) (hs : List H) (F : List (List Int)) : Prop where
  len : hs.length = F.length
  at_ : ∀ k (a : k < hs.length) (b : k < F.length), hs[k].2.1 = F[k].length ∧ 0 < F[k].length ∧ Rd w hs[k].1 (vI F[k])
def away (hs : List H) (g : Nat) : Prop := ∀ h ∈ hs, ob h.1 ≠ some g
section
variable {w w' : World} {hs : List H} {F : List (List Int)}
theorem Rd.blk {A : Option Addr} {f : List Int} (h : Rd w A (vI f)) (hp : 0 < f.length) : ∃ g, ob A = some g ∧ g < w.heap.size := by
  obtain ⟨g, off, rfl, hg, _⟩ := RdI.at_ h hp
  exact ⟨g, rfl, hg⟩
theorem RowsH.nil (w : World) : RowsH w [] [] := ⟨rfl, fun k h => by simp at h⟩
theorem RowsH.below (h : RowsH w hs F) (hb : Below w.heap.size w w') : RowsH w' hs F := ⟨h.len, fun k a b => ⟨(h.at_ k a b).1, (h.at_ k a b).2.1, (h.at_ k a b).2.2.below hb⟩⟩
theorem RowsH.lt (h : RowsH w hs F) : ∀ x ∈ hs, ∃ g, ob x.1 = some g ∧ g < w.heap.size := by
  intro x hx
  obtain ⟨k, hk, rfl⟩ := List.mem_iff_getElem.1 hx
  have := h.at_ k hk (by rw [← h.len]; exact hk)
  exact this.2.2.blk this.2.1
theorem RowsH.grown {row : Option Nat} (h : RowsH w hs F) (hg : w.grownBy w' row) (hn : ∀ g, row = some g → away hs g) : RowsH w' hs F :=
  ⟨h.len, fun k a b => ⟨(h.at_ k a b).1, (h.at_ k a b).2.1, (h.at_ k a b).2.2.grown hg fun g he e => hn g e.symm _ (List.getElem_mem a) he⟩⟩
theorem RowsH.push (h : RowsH w hs F) {A : Option Addr} {n c : Nat} {f : List Int} (hr : Rd w A (vI f)) (hn : n = f.length) (hp : 0 < f.length) : RowsH w (hs ++ [(A, n, c)]) (F ++ [f]) := by
  refine ⟨by simp [h.len], fun k a b => ?_⟩
  by_cases hk : k < hs.length
  · simp only [List.getElem_append_left hk, List.getElem_append_left (h.len ▸ hk : k < F.length)]
    exact h.at_ k hk _
  · have e : k = hs.length := by simp at a; omega
    subst e
    simp only [List.getElem_append_right (Nat.le_refl _), List.getElem_append_right (Nat.le_of_eq h.len.symm), Nat.sub_self]
    exact ⟨by simpa [h.len] using hn, by simpa [h.len] using hp, by simpa [h.len] using hr⟩
theorem away_push {g : Nat} {h : H} (ha : away hs g) (h1 : ob h.1 ≠ some g) : away (hs ++ [h]) g := by
  intro x hx
  rcases List.mem_append.1 hx with hx | hx
  · exact ha x hx
  · simp only [List.mem_singleton] at hx; rw [hx]; exact h1
theorem RowsH.away_new (h : RowsH w hs F) {g : Nat} (hg : w.heap.size ≤ g) : away hs g := by
  intro x hx e
  obtain ⟨g', h1, h2⟩ := h.lt x hx
  rw [h1] at e
  injection e with e
  omega
end
/-- Two slices of the call's own that grow, a row of headers and their rows, a block beside them. -/
structure Two (base g0 : Nat) (t1 s1 : Nat) (vs : List Value) (A : Option Addr) (n c : Nat) (B : Option Addr) (c2 : Nat) (hs : List H) (F : List (List Int)) (cells : Array Value) (w : World) : Prop where
  own1 : w.ownsRow base t1 s1 (.slice A n c) n vs
  own2 : w.ownsRow base 22 1 (.slice B n c2) n (vS hs)
  rows : RowsH w hs F
  beside : Blk w g0 3 cells
  sepA : ∀ g, ob A = some g → ob B ≠ some g ∧ away hs g ∧ g ≠ g0
  sepB : ∀ g, ob B = some g → away hs g ∧ g ≠ g0
theorem Two.below {base g0 t1 s1 : Nat} {vs : List Value} {A : Option Addr} {n c : Nat} {B : Option Addr} {c2 : Nat} {hs : List H} {F : List (List Int)} {cells : Array Value} {w w' : World}
    (h : Two base g0 t1 s1 vs A n c B c2 hs F cells w) (hb : Below w.heap.size w w') : Two base g0 t1 s1 vs A n c B c2 hs F cells w' :=
  ⟨own_keep h.own1 hb, own_keep h.own2 hb, h.rows.below hb, h.beside.below hb, h.sepA, h.sepB⟩
theorem Two.push {base g0 t1 s1 : Nat} {vs vs' : List Value} {A A' : Option Addr} {n c c' : Nat} {B B' : Option Addr} {c2 c2' : Nat} {hs : List H} {F : List (List Int)} {cells : Array Value} {w1 w2 w2' w3 : World}
    {D : Option Addr} {cf : Nat} {f : List Int} {o1 : Obj}
    (h : Two base g0 t1 s1 vs A n c B c2 hs F cells w1) (hf : Rd w1 D (vI f)) {nf : Nat} (hn : nf = f.length) (hp : 0 < f.length) (hfd : ∀ g, ob D = some g → ob A ≠ some g ∧ ob B ≠ some g)
    (ho1 : w2.ownsRow base t1 s1 (.slice A' (n + 1) c') (n + 1) vs') (hg1 : (w1.alloc o1).grownBy w2 (ob A)) (ha1 : ob A' = ob A ∨ ob A' = some (w1.alloc o1).heap.size)
    (hm : Below w2.heap.size w2 w2')
    (ho2 : w3.ownsRow base 22 1 (.slice B' (n + 1) c2') (n + 1) (vS (hs ++ [(D, nf, cf)]))) (hg2 : w2'.grownBy w3 (ob B)) (ha2 : ob B' = ob B ∨ ob B' = some w2'.heap.size) :
    Two base g0 t1 s1 vs' A' (n + 1) c' B' c2' (hs ++ [(D, nf, cf)]) (F ++ [f]) cells w3 := by
  obtain ⟨gf, hgf, hgl⟩ := hf.blk hp
  obtain ⟨hfa, hfb⟩ := hfd gf hgf
  have hz1 : (w1.alloc o1).heap.size = w1.heap.size + 1 := by simp
  have hz2 := hg1.size
  have hz3 := hm.size
  have hz4 := hg2.size
  rw [hz1] at ha1 hz2
  have hbl := h.beside.lt
  -- the blocks that were there
  have hAnew : ∀ g, ob A' = some g → ob A = some g ∨ g = w1.heap.size + 1 := fun g e => by
    rcases ha1 with h1 | h1
    · exact .inl (h1 ▸ e)
    · rw [h1] at e; injection e with e; exact .inr e.symm
  have hBnew : ∀ g, ob B' = some g → ob B = some g ∨ g = w2'.heap.size := fun g e => by
    rcases ha2 with h1 | h1
    · exact .inl (h1 ▸ e)
    · rw [h1] at e; injection e with e; exact .inr e.symm
  have hAlt := own_lt h.own1
  have hBlt := own_lt h.own2
  have r1 : RowsH w2 hs F := (h.rows.below (Below.alloc (Below.refl _ _) (Nat.le_refl _) o1)).grown hg1 fun g e => (h.sepA g e).2.1
  have f1 : Rd w2 D (vI f) := (hf.alloc o1).grown hg1 fun g he e => by rw [hgf] at he; injection he with he; subst he; exact hfa e.symm
  have k1 : Blk w2 g0 3 cells := (h.beside.alloc o1).grown hg1 fun e => (h.sepA g0 e.symm).2.2 rfl
  have r2 : RowsH w3 hs F := (r1.below hm).grown hg2 fun g e => (h.sepB g e).1
  have f2 : Rd w3 D (vI f) := (f1.below hm).grown hg2 fun g he e => by rw [hgf] at he; injection he with he; subst he; exact hfb e.symm
  have k2 : Blk w3 g0 3 cells := (k1.below hm).grown hg2 fun e => (h.sepB g0 e.symm).2 rfl
  have o1' : w3.ownsRow base t1 s1 (.slice A' (n + 1) c') (n + 1) vs' := (own_keep ho1 hm).kept hg2 (by
    rw [ownBlock_slice]
    cases hA : ob A' with
    | none => exact .inl rfl
    | some g =>
      right
      intro e
      rcases hAnew g hA with h1 | h1
      · exact (h.sepA g h1).1 e.symm
      · have := (hBlt g e.symm).2; omega)
  refine ⟨o1', ho2, r2.push f2 hn hp, k2, fun g hg => ?_, fun g hg => ?_⟩
  · rcases hAnew g hg with h1 | h1
    · obtain ⟨s1, s2, s3⟩ := h.sepA g h1
      refine ⟨fun e => ?_, away_push s2 (fun e => by rw [hgf] at e; injection e with e; subst e; exact hfa h1), s3⟩
      rcases hBnew g e with h2 | h2
      · exact s1 h2
      · have := (hAlt g h1).2; omega
    · refine ⟨fun e => ?_, away_push (h.rows.away_new (by omega)) (fun e => by rw [hgf] at e; injection e with e; omega), by omega⟩
      rcases hBnew g e with h2 | h2
      · have := (hBlt g h2).2; omega
      · have := (own_lt ho1 g hg).2; omega
  · rcases hBnew g hg with h1 | h1
    · obtain ⟨s2, s3⟩ := h.sepB g h1
      exact ⟨away_push s2 (fun e => by rw [hgf] at e; injection e with e; subst e; exact hfb h1), s3⟩
    · exact ⟨away_push (h.rows.away_new (by omega)) (fun e => by rw [hgf] at e; injection e with e; omega), by omega⟩
end Go.Proofs.YtcgjnonlndaoeaaGreatDoor

/- Slices of slices of integers, all of it the call's own: made, kept, marked. -/
namespace Go.Proofs.YtcgjnonlndaoeaaGreatDoor
open Go.RowKit
set_option linter.unusedVariables false
structure Own2 (base : Nat) (w : World) (B : Option Addr) (n c : Nat) (hs : List H) (F : List (List Int)) : Prop where
  own : w.ownsRow base 22 1 (.slice B n c) n (vS hs)
  len : hs.length = F.length
  row : ∀ k (a : k < hs.length) (b : k < F.length), w.ownsRow base 3 1 (.slice hs[k].1 hs[k].2.1 hs[k].2.2) hs[k].2.1 (vI F[k])
  off : ∀ g, ob B = some g → away hs g
  sep : ∀ i j (a : i < hs.length) (b : j < hs.length), i ≠ j → ∀ g, ob hs[i].1 = some g → ob hs[j].1 ≠ some g
/-- A result that is a slice of slices of the call's own. -/
def RetO2 (w : World) (F : List (List Int)) (e : Ending) (w' : World) : Prop :=
  ∃ A n c hs, e = .returned (.slice A n c) ∧ Own2 w.heap.size w' A n c hs F ∧ Below w.heap.size w w'
section
variable {base : Nat} {w w' : World} {B : Option Addr} {n c : Nat} {hs : List H} {F : List (List Int)}
theorem Own2.nil (base : Nat) (w : World) : Own2 base w none 0 0 [] [] :=
  ⟨own_nil _ _ _ _, rfl, fun k a => by simp at a, fun g h => by simp [ob] at h, fun i j a => by simp at a⟩
theorem Own2.none_ (h : w.ownsRow base 22 1 (.slice B 0 c) 0 []) : Own2 base w B 0 c [] [] :=
  ⟨h, rfl, fun k a => by simp at a, fun g _ x hx => by simp at hx, fun i j a => by simp at a⟩
theorem Own2.hlen (h : Own2 base w B n c hs F) : hs.length = n := by have := own_len h.own; rw [vS_length] at this; omega
theorem Own2.flen (h : Own2 base w B n c hs F) : F.length = n := h.len ▸ h.hlen
theorem Own2.rlen (h : Own2 base w B n c hs F) {k : Nat} (a : k < hs.length) (b : k < F.length) : F[k].length = hs[k].2.1 := by have := own_len (h.row k a b); rw [vI_length] at this; omega
theorem Own2.below (h : Own2 base w B n c hs F) (hb : Below w.heap.size w w') : Own2 base w' B n c hs F :=
  ⟨own_keep h.own hb, h.len, fun k a b => own_keep (h.row k a b) hb, h.off, h.sep⟩
theorem own_mono2 {base' e size : Nat} {A : Option Addr} {xs : List Value} (h : w.ownsRow base e size (.slice A n c) n xs) (hb : base' ≤ base) : w.ownsRow base' e size (.slice A n c) n xs := by
  refine ⟨h.1, ?_⟩
  rcases h.2 with hn | ⟨g, cap, cur, hv, hg, hgg, rest⟩
  · exact .inl hn
  · exact .inr ⟨g, cap, cur, hv, Nat.le_trans hb hg, hgg, rest⟩
theorem Own2.mono {base' : Nat} (h : Own2 base w B n c hs F) (hb : base' ≤ base) : Own2 base' w B n c hs F :=
  ⟨own_mono2 h.own hb, h.len, fun k a b => own_mono2 (h.row k a b) hb, h.off, h.sep⟩
theorem own_kept {e size : Nat} {A : Option Addr} {xs : List Value} {row : Option Nat} (h : w.ownsRow base e size (.slice A n c) n xs) (hg : w.grownBy w' row) (hn : ∀ g, ob A = some g → row ≠ some g) : w'.ownsRow base e size (.slice A n c) n xs :=
  h.kept hg (by
    rw [ownBlock_slice]
    cases hA : ob A with
    | none => exact .inl rfl
    | some g => right; intro e; exact hn g hA e.symm)
theorem Own2.grown {row : Option Nat} (h : Own2 base w B n c hs F) (hg : w.grownBy w' row) (hn : ∀ g, row = some g → g < base) : Own2 base w' B n c hs F :=
  ⟨own_kept h.own hg fun g e r => by have := (own_lt h.own g e).1; have := hn g r; omega, h.len,
   fun k a b => own_kept (h.row k a b) hg fun g e r => by have := (own_lt (h.row k a b) g e).1; have := hn g r; omega, h.off, h.sep⟩
theorem Own2.at_ (h : Own2 base w B n c hs F) {k : Nat} (a : k < hs.length) : ∃ g off, B = some ⟨g, off, none⟩ ∧ g < w.heap.size ∧ w.cell? ⟨g, off + k, none⟩ = some (.slice hs[k].1 hs[k].2.1 hs[k].2.2) :=
  RdS.at_ (Rd.of_own h.own) a
theorem Own2.rd (h : Own2 base w B n c hs F) {k : Nat} (a : k < hs.length) (b : k < F.length) : Rd w hs[k].1 (vI F[k]) := Rd.of_own (h.row k a b)
/-- One row is written anew. -/
theorem Own2.put (h : Own2 base w B n c hs F) {k : Nat} (a : k < hs.length) (f : List Int) (hr : w'.ownsRow base 3 1 (.slice hs[k].1 hs[k].2.1 hs[k].2.2) hs[k].2.1 (vI f)) (hg : w.grownBy w' (ob hs[k].1)) :
    Own2 base w' B n c hs (F.set k f) := by
  refine ⟨own_kept h.own hg fun g e r => h.off g e _ (List.getElem_mem a) r, by simpa using h.len, fun j a' b' => ?_, h.off, h.sep⟩
  by_cases e : k = j
  · subst e
    rw [List.getElem_set_self]
    exact hr
  · rw [List.getElem_set_ne e]
    exact own_kept (h.row j a' (by simpa using b')) hg fun g e1 r => h.sep k j a a' e g r e1
/-- One row more. -/
theorem Own2.push {w3 : World} {g1 nf cf : Nat} {f : List Int} {B' : Option Addr} {c' : Nat}
    (h : Own2 base w B n c hs F) (hf : w'.ownsRow base 3 1 (.slice (some ⟨g1, 0, none⟩) nf cf) nf (vI f)) (hg1 : w.heap.size ≤ g1) (hb : Below w.heap.size w w')
    (ho : w3.ownsRow base 22 1 (.slice B' (n + 1) c') (n + 1) (vS (hs ++ [(some ⟨g1, 0, none⟩, nf, cf)]))) (hg : w'.grownBy w3 (ob B)) (ha : ob B' = ob B ∨ ob B' = some w'.heap.size) :
    Own2 base w3 B' (n + 1) c' (hs ++ [(some ⟨g1, 0, none⟩, nf, cf)]) (F ++ [f]) := by
  have hB := own_lt h.own
  have hf1 := (own_lt hf g1 rfl).2
  have hsz := hb.size
  have hold : ∀ k (a : k < hs.length) (b : k < F.length) g, ob hs[k].1 = some g → g < w.heap.size := fun k a b g e => (own_lt (h.row k a b) g e).2
  refine ⟨ho, by simp [h.len], fun k a b => ?_, fun g e => ?_, ?_⟩
  · by_cases hk : k < hs.length
    · have hk2 : k < F.length := h.len ▸ hk
      simp only [List.getElem_append_left hk, List.getElem_append_left hk2]
      exact own_kept (own_keep (h.row k hk hk2) hb) hg fun g e r => h.off g r _ (List.getElem_mem hk) e
    · have e : k = hs.length := by simp at a; omega
      subst e
      have e3 : (hs ++ [((some ⟨g1, 0, none⟩, nf, cf) : H)])[hs.length]'a = (some ⟨g1, 0, none⟩, nf, cf) := by simp
      have e4 : (F ++ [f])[hs.length]'b = f := by rw [List.getElem_append_right (Nat.le_of_eq h.len.symm)]; simp
      rw [e3, e4]
      exact own_kept hf hg fun g e r => by simp only [ob, Option.map_some, Option.some.injEq] at e; subst e; have := (hB _ r).2; omega
  · intro x hx
    rcases List.mem_append.1 hx with hx | hx
    · rcases ha with h1 | h1
      · exact h.off g (h1 ▸ e) x hx
      · rw [h1] at e
        injection e with e
        intro r
        obtain ⟨k, hk, rfl⟩ := List.mem_iff_getElem.1 hx
        have := hold k hk (h.len ▸ hk) g r
        omega
    · simp only [List.mem_singleton] at hx
      subst hx
      intro r
      simp only [ob, Option.map_some, Option.some.injEq] at r
      subst r
      rcases ha with h1 | h1
      · rw [h1] at e
        have := (hB _ e).2
        omega
      · rw [h1] at e
        injection e with e
        omega
  · have hn1 : ∀ i (a : i < hs.length) g, ob hs[i].1 = some g → ob (some (⟨g1, 0, none⟩ : Addr)) ≠ some g := fun i a g e r => by
      simp only [ob, Option.map_some, Option.some.injEq] at r
      subst r
      have := hold i a (h.len ▸ a) _ e
      omega
    intro i j a b hij g e
    by_cases hi : i < hs.length
    · by_cases hj : j < hs.length
      · simp only [List.getElem_append_left hi] at e
        simp only [List.getElem_append_left hj]
        exact h.sep i j hi hj hij g e
      · have ej : j = hs.length := by simp at b; omega
        subst ej
        simp only [List.getElem_append_left hi] at e
        simp only [List.getElem_append_right (Nat.le_refl _), Nat.sub_self, List.getElem_cons_zero]
        exact hn1 i hi g e
    · have ei : i = hs.length := by simp at a; omega
      subst ei
      have hj : j < hs.length := by simp at b; omega
      simp only [List.getElem_append_right (Nat.le_refl _), Nat.sub_self, List.getElem_cons_zero] at e
      simp only [List.getElem_append_left hj]
      exact fun r => hn1 j hj g r e
end
def total (F : List (List Int)) : Nat := (F.map List.length).sum
def markF : Int → List (List Int) → List (List Int)
  | _, [] => []
  | k, f :: t => io k f.length :: markF (k + f.length) t
theorem total_snoc (F : List (List Int)) (f : List Int) : total (F ++ [f]) = total F + f.length := by simp [total]
theorem total_append (F F2 : List (List Int)) : total (F ++ F2) = total F + total F2 := by simp [total]
theorem total_take (F : List (List Int)) (j : Nat) (h : j < F.length) : total (F.take (j + 1)) = total (F.take j) + F[j].length := by rw [List.take_succ_eq_append_getElem h, total_snoc]
theorem total_le (F : List (List Int)) (j : Nat) : total (F.take j) ≤ total F := by
  have := total_append (F.take j) (F.drop j)
  rw [List.take_append_drop] at this
  omega
theorem markF_len : ∀ (k : Int) (F : List (List Int)), (markF k F).length = F.length
  | _, [] => rfl
  | k, f :: t => by simp [markF, markF_len]
theorem markF_snoc : ∀ (k : Int) (F : List (List Int)) (f : List Int), markF k (F ++ [f]) = markF k F ++ [io (k + total F) f.length]
  | k, [], f => by simp [markF, total]
  | k, g :: t, f => by
    simp only [List.cons_append, markF, markF_snoc, total, List.map_cons, List.sum_cons, Int.natCast_add]
    rw [show k + (g.length : Int) + ((t.map List.length).sum : Nat) = k + ((g.length : Int) + ((t.map List.length).sum : Nat)) from by omega]
theorem markF_step (k : Int) (F : List (List Int)) (j : Nat) (h : j < F.length) :
    (markF k (F.take j) ++ F.drop j).set j (io (k + total (F.take j)) F[j].length) = markF k (F.take (j + 1)) ++ F.drop (j + 1) := by
  have hl : (markF k (F.take j)).length = j := by rw [markF_len, List.length_take]; omega
  rw [List.set_append_right _ _ (by omega), hl, Nat.sub_self, List.take_succ_eq_append_getElem h, markF_snoc, List.append_assoc, List.drop_eq_getElem_cons h]
  rfl
theorem markF_get (k : Int) (F : List (List Int)) (j : Nat) (h : j < F.length) : (markF k F)[j]'(by rw [markF_len]; exact h) = io (k + total (F.take j)) F[j].length := by
  have h1 := markF_snoc k (F.take j) F[j]
  rw [← List.take_succ_eq_append_getElem h] at h1
  have h2 : markF k F = markF k (F.take (j + 1)) ++ markF (k + total (F.take (j + 1))) (F.drop (j + 1)) := by
    have : ∀ (F1 : List (List Int)) (k : Int) (F2 : List (List Int)), markF k (F1 ++ F2) = markF k F1 ++ markF (k + total F1) F2 := by
      intro F1
      induction F1 with
      | nil => intro k F2; simp [markF, total]
      | cons g t ih =>
        intro k F2
        simp only [List.cons_append, markF, ih, total, List.map_cons, List.sum_cons, Int.natCast_add]
        rw [show k + (g.length : Int) + ((t.map List.length).sum : Nat) = k + ((g.length : Int) + ((t.map List.length).sum : Nat)) from by omega]
    rw [← this, List.take_append_drop]
  have hl : (markF k (F.take j)).length = j := by rw [markF_len, List.length_take]; omega
  have h3 : (markF k F)[j]? = some (io (k + total (F.take j)) F[j].length) := by
    rw [h2, h1, List.append_assoc, List.getElem?_append_right (by omega), hl, Nat.sub_self]
    rfl
  rw [List.getElem?_eq_getElem (by rw [markF_len]; exact h)] at h3
  injection h3
end Go.Proofs.YtcgjnonlndaoeaaGreatDoor

/- The lists of a search, one for each bit: 64 slices in one block, grown one by one. -/
namespace Go.Proofs.YtcgjnonlndaoeaaGreatDoor
open Go.RowKit
set_option linter.unusedVariables false
/-- For each bit the masks that have it. -/
def fB (L : List Int) : List (List Int) := (List.range 64).map fun k => bitL k L
/-- On the way through one mask's bits. -/
def fB2 (L : List Int) (m : Int) (k : Nat) : List (List Int) := (List.range 64).map fun j => bitL j L ++ (if j < k ∧ m.toNat.testBit j = true then [m] else [])
theorem fB_len (L : List Int) : (fB L).length = 64 := by simp [fB]
theorem fB2_len (L : List Int) (m : Int) (k : Nat) : (fB2 L m k).length = 64 := by simp [fB2]
theorem fB_at (L : List Int) {k : Nat} (h : k < (fB L).length) : (fB L)[k] = bitL k L := by simp [fB]
theorem fB2_at (L : List Int) (m : Int) {k j : Nat} (h : j < (fB2 L m k).length) : (fB2 L m k)[j] = bitL j L ++ (if j < k ∧ m.toNat.testBit j = true then [m] else []) := by simp [fB2]
theorem fB2_zero (L : List Int) (m : Int) : fB2 L m 0 = fB L := by
  unfold fB2 fB
  congr 1
  funext j
  rw [if_neg (by omega), List.append_nil]
theorem fB2_no (L : List Int) (m : Int) {k : Nat} (h : m.toNat.testBit k = false) : fB2 L m (k + 1) = fB2 L m k := by
  unfold fB2
  congr 1
  funext j
  by_cases hj : j < k
  · simp [hj, show j < k + 1 by omega]
  · by_cases he : j = k
    · subst he; simp [h]
    · rw [if_neg (by omega), if_neg (by omega)]
theorem fB2_yes (L : List Int) (m : Int) {k : Nat} (hk : k < 64) (h : m.toNat.testBit k = true) : fB2 L m (k + 1) = (fB2 L m k).set k (bitL k L ++ [m]) := by
  apply List.ext_getElem
  · rw [List.length_set, fB2_len, fB2_len]
  · intro j h1 h2
    rw [List.getElem_set, fB2_at]
    by_cases he : k = j
    · subst he
      rw [if_pos rfl, if_pos ⟨by omega, h⟩]
    · rw [if_neg he, fB2_at]
      by_cases hj : j < k
      · simp [hj, show j < k + 1 by omega]
      · rw [if_neg (by omega), if_neg (by omega)]
theorem fB2_now (L : List Int) (m : Int) {k : Nat} (h : k < (fB2 L m k).length) : (fB2 L m k)[k] = bitL k L := by
  rw [fB2_at, if_neg (by omega), List.append_nil]
theorem fB2_end (L : List Int) (m : Int) {k : Nat} (h : m.toNat < 2 ^ k) : fB2 L m k = fB (L ++ [m]) := by
  unfold fB2 fB
  congr 1
  funext j
  rw [bitL_snoc]
  by_cases hb : m.toNat.testBit j = true
  · have hj : j < k := by
      rcases Nat.lt_or_ge j k with h2 | h2
      · exact h2
      · rw [Nat.testBit_lt_two_pow (Nat.lt_of_lt_of_le h (Nat.pow_le_pow_right (by decide) h2))] at hb
        cases hb
    rw [if_pos ⟨hj, hb⟩, if_pos hb]
  · rw [if_neg (fun h2 => hb h2.2), if_neg hb, List.append_nil]
/-- A search's cells: 64 slices, two functions. -/
def srC (hs : List H) (v t : Value) : List Value := vS hs ++ [v, t]
structure Srch (base gs : Nat) (w : World) (hs : List H) (F : List (List Int)) (v t : Value) : Prop where
  blk : Blk w gs 90 (srC hs v t).toArray
  hlen : hs.length = 64
  flen : F.length = 64
  row : ∀ k (a : k < hs.length) (b : k < F.length), w.ownsRow base 3 1 (.slice hs[k].1 hs[k].2.1 hs[k].2.2) hs[k].2.1 (vI F[k])
  low : gs < base
  sep : ∀ i j (a : i < hs.length) (b : j < hs.length), i ≠ j → ∀ g, ob hs[i].1 = some g → ob hs[j].1 ≠ some g
section
variable {base gs : Nat} {w w' : World} {hs : List H} {F : List (List Int)} {v t : Value}
theorem Srch.below (h : Srch base gs w hs F v t) (hb : Below w.heap.size w w') : Srch base gs w' hs F v t :=
  ⟨h.blk.below hb, h.hlen, h.flen, fun k a b => own_keep (h.row k a b) hb, h.low, h.sep⟩
theorem Srch.cell (h : Srch base gs w hs F v t) {k : Nat} (hk : k < hs.length) : w.cell? ⟨gs, k, none⟩ = some (.slice hs[k].1 hs[k].2.1 hs[k].2.2) := by
  rw [h.blk.cell k]
  unfold srC
  rw [List.getElem?_toArray, List.getElem?_append_left (by rw [vS_length]; exact hk)]
  simp [vS, hd, hk]
theorem Srch.cellV (h : Srch base gs w hs F v t) : w.cell? ⟨gs, 64, none⟩ = some v ∧ w.cell? ⟨gs, 65, none⟩ = some t := by
  rw [h.blk.cell 64, h.blk.cell 65]
  unfold srC
  rw [List.getElem?_toArray, List.getElem?_toArray, List.getElem?_append_right (by rw [vS_length, h.hlen]; omega), List.getElem?_append_right (by rw [vS_length, h.hlen]; omega), vS_length, h.hlen]
  exact ⟨rfl, rfl⟩
theorem Srch.rlen (h : Srch base gs w hs F v t) {k : Nat} (a : k < hs.length) (b : k < F.length) : F[k].length = hs[k].2.1 := by have := own_len (h.row k a b); rw [vI_length] at this; omega
theorem srC_set (hs : List H) (v t : Value) {k : Nat} (hk : k < hs.length) (h : H) : (srC hs v t).toArray.setIfInBounds k (hd h) = (srC (hs.set k h) v t).toArray := by
  unfold srC
  rw [List.setIfInBounds_toArray, List.set_append_left _ _ (by rw [vS_length]; exact hk)]
  congr 2
  simp [vS, List.map_set]
/-- One list more by one mask. -/
theorem Srch.put (h : Srch base gs w hs F v t) {k : Nat} (a : k < hs.length) (b : k < F.length) {w2 : World} {A : Option Addr} {n c : Nat} {f : List Int}
    (ho : w2.ownsRow base 3 1 (.slice A n c) n (vI f)) (hg : w.grownBy w2 (ob hs[k].1)) (ha : ob A = ob hs[k].1 ∨ ∀ g, ob A = some g → w.heap.size ≤ g) :
    Srch base gs (w2.setCell ⟨gs, k, none⟩ (.slice A n c)) (hs.set k (A, n, c)) (F.set k f) v t := by
  have hlt : ∀ j (a : j < hs.length) g, ob hs[j].1 = some g → base ≤ g ∧ g < w.heap.size := fun j a g e => own_lt (h.row j a (by rw [h.flen, ← h.hlen]; exact a)) g e
  have hfar : ∀ {n c : Nat} {A : Option Addr} {xs : List Value}, w2.ownsRow base 3 1 (.slice A n c) n xs → ∀ u, (w2.setCell ⟨gs, k, none⟩ u).ownsRow base 3 1 (.slice A n c) n xs := fun ho u => own_set ho (fun g e => by have := (own_lt ho g e).1; have := h.low; show g ≠ gs; omega) u
  refine ⟨?_, by rw [List.length_set]; exact h.hlen, by rw [List.length_set]; exact h.flen, fun j aj bj => ?_, h.low, fun i j ai bj hij g e => ?_⟩
  · rw [← srC_set hs v t a (A, n, c)]
    exact (h.blk.grown hg (fun e => by have := (hlt k a gs e.symm).1; have := h.low; omega)).set_ k _
  · by_cases he : k = j
    · subst he
      simp only [List.getElem_set_self]
      exact hfar ho _
    · simp only [List.getElem_set_ne he]
      rw [List.length_set] at aj bj
      exact hfar (own_kept (h.row j aj bj) hg (fun g e r => h.sep j k aj a (Ne.symm he) g e r)) _
  · rw [List.length_set] at ai bj
    by_cases hi : k = i
    · subst hi
      simp only [List.getElem_set_self] at e
      simp only [List.getElem_set_ne hij]
      intro r
      rcases ha with ha | ha
      · rw [ha] at e
        exact h.sep k j ai bj hij g e r
      · have h1 := ha g e
        have h2 := (hlt j bj g r).2
        omega
    · simp only [List.getElem_set_ne hi] at e
      by_cases hj : k = j
      · subst hj
        simp only [List.getElem_set_self]
        intro r
        rcases ha with ha | ha
        · rw [ha] at r
          exact h.sep i k ai bj hij g e r
        · have h1 := ha g r
          have h2 := (hlt i ai g e).2
          omega
      · simp only [List.getElem_set_ne hj]
        exact h.sep i j ai bj hij g e
end
end Go.Proofs.YtcgjnonlndaoeaaGreatDoor

/- An append of numbers as one step of a region that draws its order. -/
namespace Go.Proofs.YtcgjnonlndaoeaaGreatDoor
open Go.RowKit
set_option linter.unusedVariables false
attribute [local go_sem ↓] Go.wp_at_zero Go.wp_at_succ

section
variable {ops : Array Oper} {o : Oper} {a : Act} {w : World} {K : Act → World → Prop} {Q : Exit → Act → World → Prop} {E : Prop}
/-- An append of numbers as one step of a region that draws. -/
theorem step_appI (hg : o.guard = none) (s x : Operand) (ho : o.op = .call { callee := .builtin .append, args := #[s, x], argTypes := #[22, 22] })
    (base : Nat) (A : Option Addr) (n c : Nat) (l : List Int) (hs : a.eval s = .slice A n c) (hown : w.ownsRow base 3 1 (.slice A n c) n (vI l))
    (A2 : Option Addr) (m c2 : Nat) (l2 : List Int) (hx : a.eval x = .slice A2 m c2) (hr : Rd w A2 (vI l2)) (hl : l2.length = m) (hb : n + m ≤ 1099511627776) (hbase : base ≤ w.heap.size)
    (h : ∀ A' c' w', w'.ownsRow base 3 1 (.slice A' (n + m) c') (n + m) (vI (l ++ l2)) → w.grownBy w' (ob A) → (ob A' = ob A ∨ ob A' = some w.heap.size) → K (a.put o.dst (.slice A' (n + m) c')) w') :
    if Region.wanted o (yielded ops a.tmps) = true then Oper.wp Tryz.prog o a w K Q else E := by
  rw [if_pos (by simp [Region.wanted, hg])]
  obtain ⟨i0, hi, hz0, hz1, hz2⟩ := info_parts infoI
  refine wp_app w s x _ ho base _ i0 _ 1 8 Tryz.underlying22 hi hz0 hz1 hz2 rfl (by omega) A n c _ hs hown A2 m c2 _ hx hr (by rw [vI_length, hl]; omega) (vI_one _) (by unfold maxLen; omega) (by omega) hbase ?_
  intro A' c' w' h1
  rw [← vI_append] at h1
  exact h A' c' w' h1
end
theorem at_or {A D : Option Addr} {n m : Nat} (h : ob A = ob D ∨ ob A = some n) (hmn : m ≤ n) : ob A = ob D ∨ ∀ g, ob A = some g → m ≤ g := by
  rcases h with h | h
  · exact .inl h
  · refine .inr fun g e => ?_
    rw [h] at e
    injection e with e
    omega
end Go.Proofs.YtcgjnonlndaoeaaGreatDoor

/- The program's search: its lists by bits, the covering search. -/
namespace Go.Proofs.YtcgjnonlndaoeaaGreatDoor
open Go.RowKit
set_option linter.unusedVariables false
attribute [local go_sem ↓] Go.wp_at_zero Go.wp_at_succ

/-- A search was made. -/
def RetSr (w : World) (L : List Int) (v : Value) (e : Ending) (w' : World) : Prop :=
  ∃ gs hs, e = .returned (.pointer (some ⟨gs, 0, none⟩)) ∧ Srch (gs + 1) gs w' hs (fB L) v .nilFunc ∧ w.heap.size ≤ gs ∧ Below w.heap.size w w'
theorem Srch.fresh (w : World) (v t : Value) : Srch (w.heap.size + 1) w.heap.size (w.alloc (.cells (srC (List.replicate 64 (Option.none, 0, 0)) v t).toArray 90)) (List.replicate 64 (Option.none, 0, 0)) (fB []) v t := by
  refine ⟨Blk.new _ _ _, by simp, fB_len _, fun k a b => ?_, Nat.lt_succ_self _, fun i j a b hij g e => ?_⟩
  · rw [List.getElem_replicate, fB_at]
    exact own_nil _ _ _ _
  · rw [List.getElem_replicate] at e
    cases e
set_option maxRecDepth 100000 in
set_option maxHeartbeats 3200000 in
theorem newSearch_i (A : Option Addr) (q c : Nat) (L : List Int) (w : World) (hr : Rd w A (vI L)) (hl : L.length = q) (hq : q ≤ 1048576) (hM : Msk 36 L) :
    Calls Tryz.prog 46 #[.slice A q c, .nilFunc] w (RetSr w L .nilFunc) := by
  have hs0 := Srch.fresh w .nilFunc .nilFunc
  have HS0 := Lib.hid hs0
  have HL := Lib.hid hl
  have HR := Lib.hid hr
  have HM := Lib.hid hM
  clear hs0 hl hr hM
  go_enter Tryz.func46, Tryz.ntmps46
  go_wp2_with fail
  go_loopw [14] (fun e14 wr => ∃ (i : Nat) (hs : List H), i ≤ q ∧ e14 = .int .i64 i ∧ Srch (w.heap.size + 1) w.heap.size wr hs (fB (L.take i)) .nilFunc .nilFunc ∧ Below w.heap.size w wr) (fun e14 _ => q - (intOf e14).toNat)
  case atStart => exact ⟨0, _, Nat.zero_le _, rfl, HS0.out, bel_alloc (Below.refl _ _) _⟩
  case round =>
    clear HS0
    obtain ⟨i, hs, hi, rfl, hS, hb⟩ := hrel
    have HS := Lib.hid hS
    have HB := Lib.hid hb
    clear hS hb
    by_cases hlt : i < q
    · have hi0 : (0 : Int) ≤ (i : Int) := by omega
      have hi1 : (i : Int) < (q : Int) := by omega
      have hil : i < L.length := by rw [HL.out]; exact hlt
      obtain ⟨g, off, hA, hg, d1⟩ := RdI.at_ (HR.out.below HB.out) hil
      obtain ⟨m, hm, hm36⟩ := HM.out _ (List.getElem_mem hil)
      rw [hm] at d1
      have hst : L.take (i + 1) = L.take i ++ [(m : Int)] := by rw [List.take_succ_eq_append_getElem hil, hm]
      obtain ⟨L0, hL0⟩ : ∃ L0, L.take i = L0 := ⟨_, rfl⟩
      have hL0l : L0.length ≤ 1048576 := by rw [← hL0, List.length_take]; omega
      rw [hL0] at HS hst
      have HST := Lib.hid hst
      have HM36 := Lib.hid hm36
      subst hA
      clear hst hm hL0 hm36
      go_wp2_with fail
      go_loopw [8] (fun e8 wr => ∃ (k : Nat) (hs : List H), k ≤ 36 ∧ e8 = .int .i64 k ∧ Srch (w.heap.size + 1) w.heap.size wr hs (fB2 L0 (m : Int) k) .nilFunc .nilFunc ∧ Below w.heap.size w wr) (fun e8 _ => 36 - (intOf e8).toNat)
      case atStart => exact ⟨0, hs, Nat.zero_le _, rfl, by rw [fB2_zero]; exact HS.out, HB.out⟩
      case round =>
        clear HS HB d1 hg
        obtain ⟨k, hs, hk, rfl, hS, hb⟩ := hrel
        have HS := Lib.hid hS
        have HB := Lib.hid hb
        clear hS hb
        have hk0 : (0 : Int) ≤ (k : Int) := by omega
        have hk64 : (k : Int) ≤ 64 := by omega
        have hkl : (k : Int) < 64 := by omega
        have ek : IntKind.i64.wrap (k : Int) = (k : Int) := Go.IntWalk.i64_in _ (by omega)
        have hbit := bit_testP m k (by have := HM36.out; omega)
        obtain ⟨d, hd⟩ : ∃ d, m / 2 ^ k = d := ⟨_, rfl⟩
        have hdI : (m : Int) / 2 ^ k = (d : Int) := by rw [← hd]; simp
        rw [hdI] at hbit
        by_cases hd0 : d = 0
        · have hltm : m < 2 ^ k := by
            rw [hd0] at hd
            rcases (Nat.div_eq_zero_iff).1 hd with h | h
            · have := Nat.pow_pos (n := k) (show 0 < 2 by decide); omega
            · exact h
          have HE := Lib.hid (fB2_end L0 (m : Int) (k := k) (by rw [Int.toNat_natCast]; exact hltm))
          have hne : ((d : Int) != 0) = false := by simp [hd0]
          clear hltm hd hd0 hbit
          go_wp2_with fail
          exact ⟨⟨i + 1, hs, by omega, by go_num, by rw [HST.out, ← HE.out]; exact HS.out, HB.out⟩, by simp [intOf]; omega⟩
        · have hk36 : k < 36 := by
            rcases Nat.lt_or_ge k 36 with h | h
            · exact h
            · exfalso
              apply hd0
              rw [← hd]
              exact Nat.div_eq_of_lt (by rw [show k = 36 by omega]; exact HM36.out)
          have hne : ((d : Int) != 0) = true := by simp [hd0]
          clear hd hd0
          cases hbt : m.testBit k with
          | false =>
            rw [hbt] at hbit
            have HE := Lib.hid (fB2_no L0 (m : Int) (k := k) (by rw [Int.toNat_natCast]; exact hbt))
            clear hbt
            go_wp2_with fail
            exact ⟨⟨k + 1, hs, by omega, by go_num, by rw [HE.out]; exact HS.out, HB.out⟩, by simp [intOf]; omega⟩
          | true =>
            rw [hbt] at hbit
            have HE := Lib.hid (fB2_yes L0 (m : Int) (k := k) (by omega) (by rw [Int.toNat_natCast]; exact hbt))
            have hkh : k < hs.length := by rw [HS.out.hlen]; omega
            have hkf : k < (fB2 L0 (m : Int) k).length := by rw [fB2_len]; omega
            have d0 := HS.out.cell hkh
            have o0 := HS.out.row k hkh hkf
            rw [fB2_now] at o0
            have hrl : (bitL k L0).length = hs[k].2.1 := by have := own_len o0; rw [vI_length] at this; omega
            have hrl2 := bitL_len k L0
            obtain ⟨D, hD⟩ : ∃ D, hs[k].1 = D := ⟨_, rfl⟩
            obtain ⟨nn, hnn⟩ : ∃ nn, hs[k].2.1 = nn := ⟨_, rfl⟩
            obtain ⟨cc, hcc⟩ : ∃ cc, hs[k].2.2 = cc := ⟨_, rfl⟩
            rw [hD, hnn, hcc] at d0 o0
            rw [hnn] at hrl
            have f0 := HS.out.blk.frozen k
            have l0 := HS.out.blk.lt
            have HO := Lib.hid o0
            have HD := Lib.hid hD
            have HKH := Lib.hid hkh
            have HKF := Lib.hid hkf
            have hnn2 : nn ≤ 1048576 := by omega
            clear hbt o0 hD hnn hcc hrl hrl2
            go_wp2_with fail
            go_region_law ((refine step_appI rfl (.tmp 36) (.tmp 38) rfl (w.heap.size + 1) D nn cc (bitL k L0) (by simp [Act.eval, Act.put]) (own_keep HO.out (bel_alloc (bel_drew (Below.refl _ _)) _)) (some ⟨wr.heap.size, 0, none⟩) 1 1 [(m : Int)] (by simp [Act.eval, Act.put]) (rd_newI _ _ _) rfl (by omega) (by have := HB.out.size; simp; omega) ?_); intro D8 c8 w8 ho8 hg8 hat8; have HO8 := Lib.hid ho8; have HG8 := Lib.hid hg8; have HAT8 := Lib.hid hat8; clear ho8 hg8 hat8; have HB8 := Lib.hid ((HS.out.blk.below (bel_alloc (bel_drew (Below.refl _ _)) _)).grown HG8.out (fun e => by have := (own_lt HO.out _ e.symm).1; omega)); have d8 : w8.cell? ⟨w.heap.size, k, none⟩ = some (.slice D nn cc) := keep_grown HG8.out (keep_alloc (keep_drew d0)) (fun e => by have h9 := (own_lt HO.out _ e.symm).1; exact absurd h9 (Nat.not_succ_le_self _)); have f8 : w8.frozen? ⟨w.heap.size, k, none⟩ = false := HB8.out.frozen k; have l8 : w.heap.size < w8.heap.size := HB8.out.lt)
            all_goals
              have hP := (HS.out.below (bel_alloc (bel_drew (Below.refl _ _)) (.cells #[.int .i64 (m : Int)] 3))).put hkh hkf HO8.out (by rw [HD.out]; exact HG8.out) (by rw [HD.out]; exact at_or HAT8.out (Nat.le_refl _))
              rw [← HE.out] at hP
              have hb8 : Below w.heap.size w (w8.setCell ⟨w.heap.size, k, none⟩ (.slice D8 (nn + 1) c8)) := bel_set (bel_app (bel_trans HB.out (bel_alloc (bel_drew (Below.refl _ _)) _)) HG8.out (fun g9 e9 => by have := (own_lt HO.out g9 e9).1; omega)) (Nat.le_refl _)
              have HP := Lib.hid hP
              have HB9 := Lib.hid hb8
              clear hP hb8
              go_wp2_with fail
              exact ⟨⟨k + 1, _, by omega, by go_num, HP.out, HB9.out⟩, by simp [intOf]; omega⟩
    · obtain rfl : i = q := by omega
      have hi1 : ¬ (i : Int) < (i : Int) := by omega
      have hE : L.take i = L := List.take_of_length_le (by rw [HL.out]; exact Nat.le_refl _)
      have HE := Lib.hid hE
      clear hE
      go_wp2_with fail
      go_ret
      exact ⟨_, hs, rfl, by have := HS.out; rwa [HE.out] at this, Nat.le_refl _, HB.out⟩
end Go.Proofs.YtcgjnonlndaoeaaGreatDoor

/- The place of the least bit: the library's function, out of its table. -/
namespace Go.Proofs.YtcgjnonlndaoeaaGreatDoor
open Go.RowKit
set_option linter.unusedVariables false
attribute [local go_sem ↓] Go.wp_at_zero Go.wp_at_succ

/-- The library's table is there. -/
def Tb (w : World) : Prop := ∀ j, j < Lib.deBruijn64tab.length → w.cell? ⟨1, j, none⟩ = some (.int .u8 (Lib.deBruijn64tab.getD j 0))
theorem Tb.below {w w' : World} (h : Tb w) (hb : Below w.heap.size w w') : Tb w' := fun j hj => keep_below hb (h j hj)
theorem TZ64_l (x : Nat) (w : World) (h0 : x ≠ 0) (hx : x < 2 ^ 62) (hT : Tb w) : Calls Tryz.prog 95 #[.int .u64 (x : Int)] w (Ret w (.int .i64 (lowN x : Nat))) := by
  have hx64 : x < 18446744073709551616 := by omega
  obtain ⟨hlow, hk⟩ := Lib.lowest_bit 64 x h0 hx64
  obtain ⟨hi, htab⟩ := Lib.deBruijn64_at _ hk
  have hcell := hT _ hi
  rw [htab] at hcell
  have key := tz64_key x _ hx64 h0 hlow
  have hx0 : ((x : Int) == 0) = false := by simp; omega
  obtain ⟨k, hk2⟩ : ∃ k, lowN x = k := ⟨_, rfl⟩
  have hk3 : Lib.ctz 64 x = k := hk2
  rw [hk3] at hcell hk key hi
  rw [hk2]
  obtain ⟨idx, hidx⟩ : ∃ idx, 2 ^ k * 285870213051353865 % 18446744073709551616 / 288230376151711744 = idx := ⟨_, rfl⟩
  rw [hidx] at hcell key
  have hi2 : idx < 64 := by rw [← hidx]; omega
  clear hidx hi hlow htab hk2 hk3 hT
  go_enter Tryz.func95, Tryz.ntmps95
  go_wp2_with (simp only [key])
  go_ret
  exact ⟨rfl, Below.refl _ _⟩
theorem TZ_l (x : Nat) (w : World) (h0 : x ≠ 0) (hx : x < 2 ^ 62) (hT : Tb w) : Calls Tryz.prog 74 #[.int .u64 (x : Int)] w (Ret w (.int .i64 (lowN x : Nat))) := by
  have h := TZ64_l x w h0 hx hT
  have H := Lib.hid h
  have hw : IntKind.u64.wrap (x : Int) = (x : Int) := by rw [IntKind.wrap_u64]; omega
  clear h hT h0
  go_enter Tryz.func74, Tryz.ntmps74
  go_wp2_with fail
  refine H.out.mono ?_
  rintro e w1 ⟨rfl, hb1⟩
  go_wp2_with fail
  go_ret
  exact ⟨rfl, hb1⟩
end Go.Proofs.YtcgjnonlndaoeaaGreatDoor

/- The program's covering search. -/
namespace Go.Proofs.YtcgjnonlndaoeaaGreatDoor
open Go.RowKit
set_option linter.unusedVariables false
attribute [local go_sem ↓] Go.wp_at_zero Go.wp_at_succ

/-- What the program's covering search answers. -/
def RetCv (w : World) (l : List Int) (o : Option (List Int)) (e : Ending) (w' : World) : Prop :=
  ∃ A n c, e = .returned (.tuple #[.slice A n c, .bool o.isSome]) ∧ (∀ p, o = some p → Rd w' A (vI (l ++ p)) ∧ (l ++ p).length = n) ∧ Below w.heap.size w w'
set_option maxRecDepth 100000 in
set_option maxHeartbeats 3200000 in
theorem cover_i (gs base : Nat) (hs : List H) (L : List Int) (v t : Value) (hLl : L.length ≤ 1048576) (hM : Msk 36 L) : ∀ (most free : Nat) (l : List Int) (A : Option Addr) (n c : Nat) (w : World), Srch base gs w hs (fB L) v t → Tb w → Rd w A (vI l) → l.length = n → n + most ≤ 1000 → free < 2 ^ 36 →
    Calls Tryz.prog 49 #[.pointer (some ⟨gs, 0, none⟩), .int .i64 (free : Int), .int .i64 (most : Int), .slice A n c] w (RetCv w l (covP L most free))
  | most, free, l, A, n, c, w, hS, hT, hr, hl, hnm, hf => by
    have HS := Lib.hid hS
    have HT := Lib.hid hT
    have HR := Lib.hid hr
    have HL := Lib.hid hl
    have HM := Lib.hid hM
    clear hS hT hr hl
    by_cases h0 : free = 0
    · have hz : ((free : Int) == 0) = true := by simp [h0]
      have HV : Hid (covP L most free = some []) := by show _ = _; rw [h0, covP_zero]
      clear h0 hM
      go_enter Tryz.func49, Tryz.ntmps49
      go_wp2_with fail
      go_ret2
      exact ⟨_, _, _, by rw [HV.out]; rfl, fun p hp => by rw [HV.out] at hp; injection hp with hp; subst hp; rw [List.append_nil]; exact ⟨HR.out, HL.out⟩, Below.refl _ _⟩
    · have hz : ((free : Int) == 0) = false := by simp [h0]
      by_cases hn0 : most = 0
      · have hz2 : ((most : Int) == 0) = true := by simp [hn0]
        have HV : Hid (covP L most free = none) := by show _ = _; rw [hn0, covP_none L h0]
        clear h0 hM hn0
        go_enter Tryz.func49, Tryz.ntmps49
        go_wp2_with fail
        go_ret2
        exact ⟨_, _, _, by rw [HV.out]; rfl, (fun p hp => by rw [HV.out] at hp; cases hp), Below.refl _ _⟩
      · have hz2 : ((most : Int) == 0) = false := by simp [hn0]
        obtain ⟨n1, hn1⟩ : ∃ n1, most = n1 + 1 := ⟨most - 1, by omega⟩
        have hnI : (most : Int) - 1 = (n1 : Int) := by omega
        have en1 : IntKind.i64.wrap (n1 : Int) = (n1 : Int) := Go.IntWalk.i64_in _ (by omega)
        obtain ⟨hlb, hl64⟩ := lowN_bit h0 (by omega)
        have htz : ∀ w', Below w.heap.size w w' → Calls Tryz.prog 74 #[.int .u64 (free : Int)] w' (Ret w' (.int .i64 (lowN free : Nat))) := fun w' hb => TZ_l free w' h0 (by omega) (HT.out.below hb)
        have hV : covP L most free = (bitL (lowN free) L).findSome? fun m => (covP L n1 (free - (free &&& m.toNat))).map (m :: ·) := by rw [hn1, covP_succ L n1 h0]
        have IH : ∀ (free : Nat) (l : List Int) (A : Option Addr) (n c : Nat) (w : World), Srch base gs w hs (fB L) v t → Tb w → Rd w A (vI l) → l.length = n → n + n1 ≤ 1000 → free < 2 ^ 36 →
          Calls Tryz.prog 49 #[.pointer (some ⟨gs, 0, none⟩), .int .i64 (free : Int), .int .i64 (n1 : Int), .slice A n c] w (RetCv w l (covP L n1 free)) := fun free l A n c w => cover_i gs base hs L v t hLl hM n1 free l A n c w
        obtain ⟨low, hlo⟩ : ∃ low, lowN free = low := ⟨_, rfl⟩
        rw [hlo] at htz hl64 hlb hV
        have hlow36 : low < 36 := by
          rcases Nat.lt_or_ge low 36 with h | h
          · exact h
          · rw [Nat.testBit_lt_two_pow (Nat.lt_of_lt_of_le hf (Nat.pow_le_pow_right (by decide) h))] at hlb
            cases hlb
        have hlh : low < hs.length := by rw [HS.out.hlen]; omega
        have hlf : low < (fB L).length := by rw [fB_len]; omega
        have d0 := HS.out.cell hlh
        have o0 := HS.out.row low hlh hlf
        rw [fB_at] at o0
        obtain ⟨M, hMM⟩ : ∃ M, bitL low L = M := ⟨_, rfl⟩
        have hMl : M.length ≤ 1048576 := by have := bitL_len low L; rw [hMM] at this; omega
        have hMk : Msk 36 M := hMM ▸ bitL_msk hM
        rw [hMM] at o0 hV
        obtain ⟨D, hD⟩ : ∃ D, hs[low].1 = D := ⟨_, rfl⟩
        obtain ⟨q, hq⟩ : ∃ q, hs[low].2.1 = q := ⟨_, rfl⟩
        obtain ⟨cc, hcc⟩ : ∃ cc, hs[low].2.2 = cc := ⟨_, rfl⟩
        rw [hD, hq, hcc] at d0 o0
        have hMq : M.length = q := by have := own_len o0; rw [vI_length] at this; omega
        have l0 := HS.out.blk.lt
        have hcv : IntKind.u64.wrap (free : Int) = (free : Int) := wraps_u64 _ (by omega) (by omega)
        have hlo0 : (0 : Int) ≤ (low : Int) := by omega
        have hlo64 : (low : Int) < 64 := by omega
        have HRM := Lib.hid (Rd.of_own o0)
        have HMQ := Lib.hid hMq
        have HMK := Lib.hid hMk
        have HV := Lib.hid hV
        have HIH := Lib.hid @IH
        have HTZ := Lib.hid @htz
        have HF := Lib.hid hf
        have hqm : q ≤ 1048576 := by omega
        have hn1000 : n + n1 + 1 ≤ 1000 := by omega
        clear h0 hn0 hn1 hlb hl64 htz hV IH hlo o0 hMM hMl hMk hD hq hcc hMq hM hlh hlf hf
        go_enter Tryz.func49, Tryz.ntmps49
        go_wp2_with fail
        (refine wp_region_below (by kernel_rfl) (by kernel_rfl) ?_; (repeat (first | go_big_quiet_skip | (refine quietV (v := ?_) (by rfl) rfl (fun w' hbw => ?_) ?_; rotate_left; ((try dsimp only at hbw); have hbc := (bcell hbw).1; have hbf := (bcell hbw).2; go_simp; first | done | with_reducible rfl | (with_reducible exact callsB (v := .int .i64 (low : Int)) (HTZ.out _ (by with_reducible assumption)) hbw)); simp only [List.setIfInBounds_toArray, List.set_cons_zero, List.set_cons_succ]))); refine wpQuiet_nil ?_; intro w1 hb1)
        have HB1 := Lib.hid hb1
        clear hb1 d0 l0
        go_wp2_with fail
        go_loopw [28] (fun e28 wr => ∃ i : Nat, i ≤ q ∧ e28 = .int .i64 i ∧ (∀ m ∈ M.take i, (covP L n1 (free - (free &&& m.toNat))).map (m :: ·) = none) ∧ Below w.heap.size w wr) (fun e28 _ => q - (intOf e28).toNat)
        case atStart => exact ⟨0, Nat.zero_le _, rfl, by simp, HB1.out⟩
        case round =>
          clear HB1
          obtain ⟨i, hi, rfl, hno, hb⟩ := hrel
          have HNO := Lib.hid hno
          have HB := Lib.hid hb
          clear hno hb
          by_cases hlt : i < q
          · have hi0 : (0 : Int) ≤ (i : Int) := by omega
            have hi1 : (i : Int) < (q : Int) := by omega
            have hil : i < M.length := by rw [HMQ.out]; exact hlt
            obtain ⟨g, off, hA, hg, d1⟩ := RdI.at_ (HRM.out.below HB.out) hil
            obtain ⟨m, hm, hm36⟩ := HMK.out _ (List.getElem_mem hil)
            rw [hm] at d1
            obtain ⟨f2, hf2⟩ : ∃ f2, free - (free &&& m) = f2 := ⟨_, rfl⟩
            have hand : bits .andNot .i64 (free : Int) (m : Int) = (f2 : Int) := by rw [i64_andNot free m (by have := HF.out; omega) (by omega), hf2]
            have hf236 : f2 < 2 ^ 36 := by have := HF.out; omega
            have hg2 : (covP L n1 (free - (free &&& M[i].toNat))).map (M[i] :: ·) = (covP L n1 f2).map ((m : Int) :: ·) := by rw [hm, Int.toNat_natCast, hf2]
            have HG := Lib.hid hg2
            have HF2 := Lib.hid hf236
            obtain ⟨o, ho⟩ : ∃ o, covP L n1 f2 = o := ⟨_, rfl⟩
            rw [ho] at HG
            have HO := Lib.hid ho
            subst hA
            clear hm hf2 hg2 hf236 ho
            go_wp2_with fail
            refine (copyInts_i A n c l _ (HR.out.below HB.out) HL.out (by omega)).mono ?_
            rintro e w2 ⟨D2, q2, c2, rfl, hO2, hb2⟩
            obtain rfl : q2 = n := by have := own_len hO2; rw [vI_length, HL.out] at this; omega
            have HO2 := Lib.hid hO2
            have HB2 := Lib.hid (bel_trans HB.out hb2)
            have HBR := Lib.hid hb2
            clear hO2 hb2
            go_wp2_with (at_builtin; go_must (refine app_I _ rfl _ _ rfl wr.heap.size _ _ _ l rfl (HO2.out.alloc _) _ _ _ [(m : Int)] rfl (rd_newI _ _ _) rfl (by omega) (by have := HBR.out.size; simp; omega) ?_); intro D6 c6 w6 ho6 hg6 hat6; have HO6 := Lib.hid ho6; have HG6 := Lib.hid hg6; clear ho6 hg6 hat6)
            have hb6 : Below w.heap.size w w6 := bel_app (bel_alloc HB2.out _) HG6.out (fun g9 e9 => by have := (own_lt HO2.out g9 e9).1; have := HB.out.size; omega)
            have HB6 := Lib.hid hb6
            have hC := HIH.out f2 (l ++ [(m : Int)]) D6 (q2 + 1) c6 w6 (HS.out.below hb6) (HT.out.below hb6) (Rd.of_own HO6.out) (by rw [List.length_append, HL.out]; rfl) (by omega) HF2.out
            rw [HO.out] at hC
            have HC := Lib.hid hC
            clear hC hb6
            cases o with
            | none =>
              have HS2 := Lib.hid (none_succ hil HNO.out (HG.out.trans rfl))
              refine HC.out.mono ?_
              rintro e w7 ⟨A7, n7, c7, rfl, hp7, hb7⟩
              clear hp7
              have HB7 := Lib.hid (bel_trans HB6.out hb7)
              clear hb7
              go_wp2_with fail
              exact ⟨⟨i + 1, by omega, by go_num, HS2.out, HB7.out⟩, by simp [intOf]; omega⟩
            | some p =>
              have HF9 := Lib.hid (find_at (f := fun m => (covP L n1 (free - (free &&& m.toNat))).map (m :: ·)) hil HNO.out (HG.out.trans rfl))
              refine HC.out.mono ?_
              rintro e w7 ⟨A7, n7, c7, rfl, hp7, hb7⟩
              have hp8 := hp7 p rfl
              have HP8 := Lib.hid hp8
              have HB7 := Lib.hid (bel_trans HB6.out hb7)
              clear hb7 hp7 hp8
              go_wp2_with fail
              go_ret2
              exact ⟨A7, n7, c7, by rw [HV.out, HF9.out]; rfl, fun p9 hp9 => by
                rw [HV.out, HF9.out] at hp9
                injection hp9 with hp9
                subst hp9
                have h9 := HP8.out
                rw [List.append_assoc] at h9
                exact h9, HB7.out⟩
          · have hi1 : ¬ (i : Int) < (q : Int) := by omega
            have HS2 := Lib.hid (find_none (show M.length ≤ i by rw [HMQ.out]; omega) HNO.out)
            go_wp2_with fail
            go_ret2
            exact ⟨_, _, _, by rw [HV.out, HS2.out]; rfl, (fun p hp => by rw [HV.out, HS2.out] at hp; cases hp), HB.out⟩
termination_by most => most
decreasing_by omega
end Go.Proofs.YtcgjnonlndaoeaaGreatDoor

/- Coverings with fewest masks: the program. -/
namespace Go.Proofs.YtcgjnonlndaoeaaGreatDoor
open Go.RowKit
set_option linter.unusedVariables false
attribute [local go_sem ↓] Go.wp_at_zero Go.wp_at_succ

set_option maxRecDepth 100000 in
set_option maxHeartbeats 3200000 in
theorem FewestCovering_i (W : Int) (A B : Option Addr) (n c q cb : Nat) (rows : List Int) (hs : List H) (P : List (List C)) (w : World) (hr : Rd w A (vI rows)) (hl : rows.length = n) (hp : RdP w B q hs P) (hq : q ≤ 1048576) (hm : totC P ≤ 1048576) (hT : Tb w) :
    Calls Tryz.prog 15 #[.agg #[.int .i64 W, .slice A n c], .slice B q cb] w (RetS2 w 3 1 (vI (fewL W rows P)) (.bool (fewcV W rows P).isSome)) := by
  have HL := Lib.hid hl
  have HR := Lib.hid (hr.alloc (.cells #[.int .i64 W, .slice A n c] 29))
  have HP := Lib.hid (hp.alloc (.cells #[.int .i64 W, .slice A n c] 29))
  have HB0 := Lib.hid (Blk.new w 29 #[.int .i64 W, .slice A n c])
  have HM := Lib.hid hm
  have hbw0 : Below w.heap.size w (w.alloc (.cells #[.int .i64 W, .slice A n c] 29)) := bel_alloc (Below.refl _ _) _
  have HT := Lib.hid hT
  clear hl hr hp hm hT
  have HB1 : Hid (∀ {w1 : World}, Below (w.alloc (.cells #[.int .i64 W, .slice A n c] 29)).heap.size (w.alloc (.cells #[.int .i64 W, .slice A n c] 29)) w1 → w1.cell? ⟨w.heap.size, 0, none⟩ = some (.int .i64 W) ∧ w1.cell? ⟨w.heap.size, 1, none⟩ = some (.slice A n c) ∧ w.heap.size < w1.heap.size) := fun h => by
    have hB := HB0.out.below h
    exact ⟨by simpa using hB.cell 0, by simpa using hB.cell 1, hB.lt⟩
  cases hsm : smallV W rows P with
  | false =>
    have hV := fewL_of (W := W) (rows := rows) (P := P) (o := none) (by unfold fewcV; rw [hsm]; rfl)
    have HV := Lib.hid hV
    have HS := Lib.hid hsm
    clear hsm hV
    go_enter Tryz.func15, Tryz.ntmps15
    go_wp2_with fail
    refine (isSmall_i W A B n c q cb rows hs P _ HR.out HL.out HP.out hq HM.out).mono ?_
    rw [HS.out]
    rintro e w1 ⟨rfl, hb1⟩
    have HB2 := Lib.hid (bel_trans hbw0 hb1)
    clear hb1
    go_wp2_with fail
    go_ret2
    exact ⟨_, _, _, by rw [HV.out.2]; rfl, by rw [HV.out.1]; simp only [Option.getD_none]; rw [ord_nil]; exact own_nil _ _ _ _, HB2.out⟩
  | true =>
    obtain ⟨hvr, hpc, a, ha, ha12⟩ := small_parts hsm
    have hfc : fewcV W rows P = fewTo (allV W rows P) (maskV W rows) (a + 1) := by unfold fewcV; rw [if_pos hsm, ha, Int.toNat_natCast]
    have hLm := allV_msk W rows P
    have hLl := allV_len W rows P
    have hp5 := (pcs_at hpc).1
    have hM36 := mask36C W rows
    obtain ⟨L, hL⟩ : ∃ L, allV W rows P = L := ⟨_, rfl⟩
    obtain ⟨M, hMM⟩ : ∃ M, maskV W rows = M := ⟨_, rfl⟩
    rw [hL] at hLm hLl hfc
    rw [hMM] at hM36 hfc
    have hL5 : L.length ≤ 1440 := by omega
    have HV := Lib.hid (fun o (h : fewTo L M (a + 1) = o) => fewL_of (hfc.trans h))
    have HS := Lib.hid hsm
    have HVR := Lib.hid hvr
    have HPC := Lib.hid hpc
    have HLE := Lib.hid hL
    have HLM := Lib.hid hLm
    have HL5 := Lib.hid hL5
    have HA := Lib.hid ha
    have HMM := Lib.hid hMM
    have HM36 := Lib.hid hM36
    clear hsm hvr hpc hL hMM hLm hLl hp5 hL5 ha hfc hM36
    go_enter Tryz.func15, Tryz.ntmps15
    go_wp2_with fail
    refine (isSmall_i W A B n c q cb rows hs P _ HR.out HL.out HP.out hq HM.out).mono ?_
    rw [HS.out]
    rintro e w1 ⟨rfl, hb1⟩
    obtain ⟨b0, b1, bl⟩ := HB1.out hb1
    go_wp2_with fail
    refine (all_i W A B n c q cb rows hs P _ (HR.out.below hb1) HL.out HVR.out (HP.out.below hb1) HPC.out).mono ?_
    rw [HLE.out]
    rintro e w2 ⟨gE, q3, c3, rfl, hO, hb2⟩
    have hq3 : L.length = q3 := by have := own_len hO; rw [vI_length] at this; omega
    have HQ3 := Lib.hid hq3
    have HRE2 := Lib.hid (Rd.of_own hO)
    have hq4 : q3 ≤ 1440 := by have := HL5.out; omega
    have HB12 := Lib.hid (bel_trans hb1 hb2)
    clear hO hq3 b0 b1 bl hb1 hb2
    go_wp2_with fail
    refine (newSearch_i gE q3 c3 L w2 HRE2.out HQ3.out (by omega) HLM.out).mono ?_
    rintro e w3 ⟨gs, hsr, rfl, hSr, hgs, hb3⟩
    have HSR := Lib.hid hSr
    have HB13 := Lib.hid (bel_trans HB12.out hb3)
    clear hSr hb3 hgs
    obtain ⟨b0, b1, bl⟩ := HB1.out HB13.out
    go_wp2_with fail
    go_loopw [7] (fun e7 wr2 => ∃ k : Nat, k ≤ a + 1 ∧ e7 = .int .i64 k ∧ fewTo L M k = none ∧ Below w3.heap.size w3 wr2) (fun e7 _ => a + 1 - (intOf e7).toNat)
    case atStart => exact ⟨0, Nat.zero_le _, rfl, rfl, Below.refl _ _⟩
    case round =>
      clear b0 b1 bl
      obtain ⟨k, hk, rfl, hno, hb4⟩ := hrel
      have HNO := Lib.hid hno
      have HB4 := Lib.hid (bel_trans HB13.out hb4)
      have HBS := Lib.hid hb4
      clear hno hb4
      obtain ⟨b0, b1, bl⟩ := HB1.out HB4.out
      go_wp2_with fail
      refine (AreaOf_i W A n c rows _ (HR.out.below HB4.out) HL.out).mono ?_
      rw [HA.out]
      rintro e w5 ⟨rfl, hb5⟩
      have HB45 := Lib.hid (bel_trans HB4.out hb5)
      have HBT := Lib.hid (bel_trans HBS.out hb5)
      clear hb5 b0 b1 bl
      obtain ⟨b0, b1, bl⟩ := HB1.out HB45.out
      by_cases hka : k ≤ a
      · have hkI : (k : Int) ≤ (a : Int) := by omega
        go_wp2_with fail
        refine (mask_i W A n c rows _ (HR.out.below HB45.out) HL.out HVR.out).mono ?_
        rw [HMM.out]
        rintro e w6 ⟨rfl, hb6⟩
        have HB46 := Lib.hid (bel_trans HB45.out hb6)
        have HBU := Lib.hid (bel_trans HBT.out hb6)
        clear hb6 b0 b1 bl
        go_wp2_with fail
        obtain ⟨o, ho⟩ : ∃ o, covP L k M = o := ⟨_, rfl⟩
        have hC := cover_i gs (gs + 1) hsr L .nilFunc .nilFunc (by have := HL5.out; omega) HLM.out k M [] none 0 0 w6 (HSR.out.below HBU.out) (HT.out.below (bel_trans hbw0 HB46.out)) (.inl rfl) rfl (by omega) HM36.out
        rw [ho] at hC
        have HC := Lib.hid hC
        have HO := Lib.hid ho
        clear hC ho
        cases o with
        | none =>
          have HN2 := Lib.hid (fewTo_next HNO.out HO.out)
          refine HC.out.mono ?_
          rintro e w8 ⟨g8, k8, c8, rfl, hO8, hb8⟩
          clear hO8
          have HBX := Lib.hid (bel_trans HBU.out hb8)
          clear hb8
          go_wp2_with fail
          exact ⟨⟨k + 1, by omega, by go_num, HN2.out, HBX.out⟩, by simp [intOf]; omega⟩
        | some p =>
          have hE := HV.out _ (fewTo_some HNO.out HO.out (a + 1) (by omega))
          have HE := Lib.hid hE
          refine HC.out.mono ?_
          rintro e w8 ⟨A8, n8, c8, rfl, hp8, hb8⟩
          obtain ⟨hr8, hl8⟩ := hp8 p rfl
          rw [List.nil_append] at hr8 hl8
          have hpl := (covP_spec (show M < 2 ^ 62 by have := HM36.out; omega) HO.out).1
          have hn8 : n8 ≤ 1000 := by omega
          have HR8 := Lib.hid hr8
          have HL8 := Lib.hid hl8
          have HBX := Lib.hid (bel_trans hbw0 (bel_trans HB46.out hb8))
          clear hb8 hp8 hE hr8 hl8 hpl
          go_wp2_with fail
          refine (ordered_i A8 n8 c8 p w8 HR8.out HL8.out (by omega)).mono ?_
          rintro e w9 ⟨A9, n9, c9, rfl, hO9, hb9⟩
          have HO9 := Lib.hid hO9
          have HB9 := Lib.hid (bel_trans HBX.out hb9)
          clear hO9 hb9
          go_wp2_with fail
          go_ret2
          exact ⟨_, _, _, by rw [HE.out.2]; rfl, by rw [HE.out.1]; exact own_base HO9.out HBX.out.size, HB9.out⟩
      · have hkI : ¬ (k : Int) ≤ (a : Int) := by omega
        obtain rfl : k = a + 1 := by omega
        have HE := Lib.hid (HV.out _ HNO.out)
        have HBX := Lib.hid (bel_trans hbw0 HB45.out)
        go_wp2_with fail
        go_ret2
        exact ⟨_, _, _, by rw [HE.out.2]; rfl, by rw [HE.out.1]; simp only [Option.getD_none]; rw [ord_nil]; exact own_nil _ _ _ _, HBX.out⟩
end Go.Proofs.YtcgjnonlndaoeaaGreatDoor

/- Coverings with fewest masks: how many. -/
namespace Go.Proofs.YtcgjnonlndaoeaaGreatDoor
open Go.RowKit
set_option linter.unusedVariables false
attribute [local go_sem ↓] Go.wp_at_zero Go.wp_at_succ

/-- How many masks the fewest covering has. -/
def cntcV (W : Int) (rows : List Int) (P : List (List C)) : Int := if (fewcV W rows P).isSome then ((fewL W rows P).length : Nat) else -1
theorem CountCovering_s (W : Int) (A B : Option Addr) (n c q cb : Nat) (rows : List Int) (hs : List H) (P : List (List C)) (w : World) (hr : Rd w A (vI rows)) (hl : rows.length = n) (hp : RdP w B q hs P) (hq : q ≤ 1048576) (hm : totC P ≤ 1048576) :
    Calls Tryz.prog 8 #[.agg #[.int .i64 W, .slice A n c], .slice B q cb] w (Ret w (.int .i64 (cntcV W rows P))) := by
  have HL := Lib.hid hl
  have HR := Lib.hid (hr.alloc (.cells #[.int .i64 W, .slice A n c] 29))
  have HP := Lib.hid (hp.alloc (.cells #[.int .i64 W, .slice A n c] 29))
  have HB0 := Lib.hid (Blk.new w 29 #[.int .i64 W, .slice A n c])
  have HM := Lib.hid hm
  have hbw0 : Below w.heap.size w (w.alloc (.cells #[.int .i64 W, .slice A n c] 29)) := bel_alloc (Below.refl _ _) _
  skip
  clear hl hr hp hm
  have HB1 : Hid (∀ {w1 : World}, Below (w.alloc (.cells #[.int .i64 W, .slice A n c] 29)).heap.size (w.alloc (.cells #[.int .i64 W, .slice A n c] 29)) w1 → w1.cell? ⟨w.heap.size, 0, none⟩ = some (.int .i64 W) ∧ w1.cell? ⟨w.heap.size, 1, none⟩ = some (.slice A n c) ∧ w.heap.size < w1.heap.size) := fun h => by
    have hB := HB0.out.below h
    exact ⟨by simpa using hB.cell 0, by simpa using hB.cell 1, hB.lt⟩
  obtain ⟨F, hF⟩ : ∃ F, fewL W rows P = F := ⟨_, rfl⟩
  obtain ⟨b, hb⟩ : ∃ b, (fewcV W rows P).isSome = b := ⟨_, rfl⟩
  have hV : cntcV W rows P = if b then ((F.length : Nat) : Int) else -1 := by unfold cntcV; rw [hF, hb]
  have HV := Lib.hid hV
  have HF := Lib.hid hF
  have HBB := Lib.hid hb
  clear hV hF hb
  go_enter Tryz.func8, Tryz.ntmps8
  go_wp2_with fail
  have hC := FewestCovering_s W A B n c q cb rows hs P _ HR.out HL.out HP.out hq HM.out
  rw [HF.out, HBB.out] at hC
  refine Calls.mono hC ?_
  rintro e w1 ⟨A1, n1, c1, rfl, hO1, hb1⟩
  have hn1 : F.length = n1 := by have := own_len hO1; rw [vI_length] at this; omega
  have HN1 := Lib.hid hn1
  have HB := Lib.hid (bel_trans hbw0 hb1)
  clear hC hO1 hn1 hb1
  cases b with
  | false =>
    go_wp2_with fail
    go_ret
    exact ⟨by rw [HV.out]; rfl, HB.out⟩
  | true =>
    have hv2 : cntcV W rows P = ((n1 : Nat) : Int) := by have h := HV.out; rw [HN1.out] at h; simpa using h
    have HV2 := Lib.hid hv2
    clear hv2
    go_wp2_with fail
    go_ret
    exact ⟨by rw [HV2.out]; rfl, HB.out⟩
theorem CountCovering_i (W : Int) (A B : Option Addr) (n c q cb : Nat) (rows : List Int) (hs : List H) (P : List (List C)) (w : World) (hr : Rd w A (vI rows)) (hl : rows.length = n) (hp : RdP w B q hs P) (hq : q ≤ 1048576) (hm : totC P ≤ 1048576) (hT : Tb w) :
    Calls Tryz.prog 11 #[.agg #[.int .i64 W, .slice A n c], .slice B q cb] w (Ret w (.int .i64 (cntcV W rows P))) := by
  have HL := Lib.hid hl
  have HR := Lib.hid (hr.alloc (.cells #[.int .i64 W, .slice A n c] 29))
  have HP := Lib.hid (hp.alloc (.cells #[.int .i64 W, .slice A n c] 29))
  have HB0 := Lib.hid (Blk.new w 29 #[.int .i64 W, .slice A n c])
  have HM := Lib.hid hm
  have hbw0 : Below w.heap.size w (w.alloc (.cells #[.int .i64 W, .slice A n c] 29)) := bel_alloc (Below.refl _ _) _
  have HT := Lib.hid (hT.below (bel_alloc (Below.refl _ _) (.cells #[.int .i64 W, .slice A n c] 29)))
  clear hl hr hp hm hT
  have HB1 : Hid (∀ {w1 : World}, Below (w.alloc (.cells #[.int .i64 W, .slice A n c] 29)).heap.size (w.alloc (.cells #[.int .i64 W, .slice A n c] 29)) w1 → w1.cell? ⟨w.heap.size, 0, none⟩ = some (.int .i64 W) ∧ w1.cell? ⟨w.heap.size, 1, none⟩ = some (.slice A n c) ∧ w.heap.size < w1.heap.size) := fun h => by
    have hB := HB0.out.below h
    exact ⟨by simpa using hB.cell 0, by simpa using hB.cell 1, hB.lt⟩
  obtain ⟨F, hF⟩ : ∃ F, fewL W rows P = F := ⟨_, rfl⟩
  obtain ⟨b, hb⟩ : ∃ b, (fewcV W rows P).isSome = b := ⟨_, rfl⟩
  have hV : cntcV W rows P = if b then ((F.length : Nat) : Int) else -1 := by unfold cntcV; rw [hF, hb]
  have HV := Lib.hid hV
  have HF := Lib.hid hF
  have HBB := Lib.hid hb
  clear hV hF hb
  go_enter Tryz.func11, Tryz.ntmps11
  go_wp2_with fail
  have hC := FewestCovering_i W A B n c q cb rows hs P _ HR.out HL.out HP.out hq HM.out HT.out
  rw [HF.out, HBB.out] at hC
  refine Calls.mono hC ?_
  rintro e w1 ⟨A1, n1, c1, rfl, hO1, hb1⟩
  have hn1 : F.length = n1 := by have := own_len hO1; rw [vI_length] at this; omega
  have HN1 := Lib.hid hn1
  have HB := Lib.hid (bel_trans hbw0 hb1)
  clear hC hO1 hn1 hb1
  cases b with
  | false =>
    go_wp2_with fail
    go_ret
    exact ⟨by rw [HV.out]; rfl, HB.out⟩
  | true =>
    have hv2 : cntcV W rows P = ((n1 : Nat) : Int) := by have h := HV.out; rw [HN1.out] at h; simpa using h
    have HV2 := Lib.hid hv2
    clear hv2
    go_wp2_with fail
    go_ret
    exact ⟨by rw [HV2.out]; rfl, HB.out⟩

end Go.Proofs.YtcgjnonlndaoeaaGreatDoor

/- The laws' own functions on integers and slices of integers: copying, comparing, marking. -/
namespace Go.Proofs.YtcgjnonlndaoeaaGreatDoor
open Go.RowKit
set_option linter.unusedVariables false
attribute [local go_sem ↓] Go.wp_at_zero Go.wp_at_succ

theorem toIntS_l (A : Option Addr) (n c : Nat) (xs : List Int) (w : World) (hr : Rd w A (vI xs)) (hl : xs.length = n) (hn : n ≤ 1048576) :
    Calls Tryz.prog 37 #[.slice A n c] w (RetS w 3 1 (vI xs)) := by
  have hmk := mk_I w n hn
  go_enter Tryz.func37, Tryz.ntmps37
  go_wp2
  go_loopw [4] (fun i wr => ∃ k : Nat, k ≤ n ∧ i = .int .i64 k ∧ Blk wr w.heap.size 3 (vI (xs.take k ++ List.replicate (xs.length - k) 0)).toArray ∧ Below w.heap.size w wr) (fun i _ => n - (intOf i).toNat)
  case atStart => exact ⟨0, Nat.zero_le _, rfl, by rw [hl]; exact Blk.new _ _ _, (by (repeat (first | with_reducible exact Below.refl _ _ | with_reducible assumption | with_reducible apply bel_alloc | with_reducible apply bel_drew | with_reducible apply bel_drewN | ((with_reducible refine bel_set ?_ ?_); rotate_left; (simp <;> omega)) | (with_reducible refine bel_trans ?_ (by with_reducible assumption)))))⟩
  case round =>
    obtain ⟨k, hk, rfl, hB, hb⟩ := hrel
    clear hmk
    by_cases hlt : k < n
    · have hkx : k < xs.length := by omega
      obtain ⟨g, off, rfl, hgn, c0⟩ := RdI.at_ hr hkx
      have c1 := keep_below hb c0
      have hgw := Nat.lt_of_lt_of_le hgn hb.size
      clear c0
      obtain ⟨x, hx⟩ : ∃ x, xs[k] = x := ⟨_, rfl⟩
      have hs := blkI_set hB k x
      rw [← hx, fill_step xs 0 k hkx, hx] at hs
      have d1 := blkI_cell hB (k := k) (by rw [fill_len _ _ _ (by omega)]; omega)
      generalize (xs.take k ++ List.replicate (xs.length - k) 0)[k]'(by rw [fill_len _ _ _ (by omega)]; omega) = z at d1
      have f1 := hB.frozen k
      rw [hx] at c1
      have HS := Lib.hid hs
      have hgl := hB.lt
      clear hs hx hB hl
      go_wp2
      exact ⟨⟨k + 1, by omega, by go_num, HS.out, (by (repeat (first | with_reducible exact Below.refl _ _ | with_reducible assumption | with_reducible apply bel_alloc | with_reducible apply bel_drew | with_reducible apply bel_drewN | ((with_reducible refine bel_set ?_ ?_); rotate_left; (simp <;> omega)) | (with_reducible refine bel_trans ?_ (by with_reducible assumption)))))⟩, by simp [intOf]; omega⟩
    · have hkk : k = n := by omega
      subst hkk
      have ho := own_blk hB (size := 1) (n := k) (by simp [vI_length, ← hl]) (Nat.le_refl _) (by unfold maxLen; omega)
      rw [← hl, fill_end] at ho
      have HO := Lib.hid ho
      have HL := Lib.hid hl
      clear ho hB hl
      go_wp2
      go_ret
      exact ⟨_, _, _, rfl, by have h := HO.out; rw [HL.out] at h; simpa using h, hb⟩

theorem eqIntS_l (A A2 : Option Addr) (n c n2 c2 : Nat) (xs ys : List Int) (w : World) (hr : Rd w A (vI xs)) (hr2 : Rd w A2 (vI ys)) (hl : xs.length = n) (hl2 : ys.length = n2) (hn : n ≤ 1099511627776) (hn2 : n2 ≤ 1099511627776) :
    Calls Tryz.prog 16 #[.slice A n c, .slice A2 n2 c2] w (Ret w (.bool (decide (xs = ys)))) := by
  by_cases hne : n = n2
  · subst hne
    have HL := Lib.hid hl
    have HL2 := Lib.hid hl2
    go_enter Tryz.func16, Tryz.ntmps16
    go_wp2
    clear hl hl2
    go_loopw [5] (fun i wr => ∃ k : Nat, k ≤ n ∧ i = .int .i64 k ∧ xs.take k = ys.take k ∧ Below w.heap.size w wr) (fun i _ => n - (intOf i).toNat)
    case atStart => exact ⟨0, Nat.zero_le _, rfl, rfl, Below.refl _ _⟩
    case round =>
      obtain ⟨k, hk, rfl, he, hb⟩ := hrel
      by_cases hlt : k < n
      · have hkx : k < xs.length := by rw [HL.out]; omega
        have hky : k < ys.length := by rw [HL2.out]; omega
        obtain ⟨g, off, rfl, hgw, c1⟩ := RdI.at_ (hr.below hb) hkx
        obtain ⟨g2, off2, rfl, hgw2, c2⟩ := RdI.at_ (hr2.below hb) hky
        have e1 := List.take_succ_eq_append_getElem hkx
        have e2 := List.take_succ_eq_append_getElem hky
        obtain ⟨x, hx⟩ : ∃ x, xs[k] = x := ⟨_, rfl⟩
        obtain ⟨y, hy⟩ : ∃ y, ys[k] = y := ⟨_, rfl⟩
        rw [hx] at c1 e1
        rw [hy] at c2 e2
        have HX := Lib.hid hx
        have HY := Lib.hid hy
        have HE := Lib.hid he
        have E1 := Lib.hid e1
        have E2 := Lib.hid e2
        have hi0 : (0 : Int) ≤ (k : Int) := by omega
        have hi1 : (k : Int) < (n : Int) := by omega
        clear e1 e2 hx hy he
        by_cases hxy : x = y
        · subst hxy
          go_wp2_with fail
          go_quiet (fail)
          go_wp2
          exact ⟨⟨k + 1, by omega, by go_num, by rw [E1.out, E2.out, HE.out], (by (repeat (first | with_reducible exact Below.refl _ _ | with_reducible assumption | with_reducible apply bel_alloc | with_reducible apply bel_drew | with_reducible apply bel_drewN | ((with_reducible refine bel_set ?_ ?_); rotate_left; (simp <;> omega)) | (with_reducible refine bel_trans ?_ (by with_reducible assumption)))))⟩, by simp [intOf]; omega⟩
        · have hd : (x == y) = false := by simpa using hxy
          have hv : decide (xs = ys) = false := by
            simp only [decide_eq_false_iff_not]
            rintro rfl
            exact hxy (HX.out.symm.trans HY.out)
          have HV := Lib.hid hv
          clear hxy hv
          go_wp2_with fail
          go_quiet (fail)
          go_wp2
          go_ret
          exact ⟨by rw [HV.out]; rfl, (by (repeat (first | with_reducible exact Below.refl _ _ | with_reducible assumption | with_reducible apply bel_alloc | with_reducible apply bel_drew | with_reducible apply bel_drewN | ((with_reducible refine bel_set ?_ ?_); rotate_left; (simp <;> omega)) | (with_reducible refine bel_trans ?_ (by with_reducible assumption)))))⟩
      · have hkk : k = n := by omega
        subst hkk
        rw [List.take_of_length_le (by rw [HL.out]; omega), List.take_of_length_le (by rw [HL2.out]; omega)] at he
        have HV : Hid (decide (xs = ys) = true) := by simpa [Hid] using he
        clear he
        go_wp2
        go_ret
        exact ⟨by rw [HV.out]; rfl, (by (repeat (first | with_reducible exact Below.refl _ _ | with_reducible assumption | with_reducible apply bel_alloc | with_reducible apply bel_drew | with_reducible apply bel_drewN | ((with_reducible refine bel_set ?_ ?_); rotate_left; (simp <;> omega)) | (with_reducible refine bel_trans ?_ (by with_reducible assumption)))))⟩
  · have hv : decide (xs = ys) = false := by
      simp only [decide_eq_false_iff_not]
      rintro rfl
      omega
    have HV := Lib.hid hv
    have hd : ((n : Int) == (n2 : Int)) = false := by simp; omega
    clear hv hl hl2
    go_enter Tryz.func16, Tryz.ntmps16
    go_wp2
    go_ret
    exact ⟨by rw [HV.out]; rfl, (by (repeat (first | with_reducible exact Below.refl _ _ | with_reducible assumption | with_reducible apply bel_alloc | with_reducible apply bel_drew | with_reducible apply bel_drewN | ((with_reducible refine bel_set ?_ ?_); rotate_left; (simp <;> omega)) | (with_reducible refine bel_trans ?_ (by with_reducible assumption)))))⟩

theorem eqIntS_t (A A2 : Option Addr) (n c n2 c2 : Nat) (xs : List Int) (w : World) (hr : Rd w A (vI xs)) (hr2 : Rd w A2 (vI xs)) (hl : xs.length = n) (hl2 : xs.length = n2) (hn : n ≤ 1099511627776) :
    Calls Tryz.prog 16 #[.slice A n c, .slice A2 n2 c2] w (Ret w (.bool true)) := by
  have h := eqIntS_l A A2 n c n2 c2 xs xs w hr hr2 hl hl2 hn (by omega)
  simpa using h

/-- What marking does: the numbers from k on, in its own block alone. -/
def MarkP (w : World) (base E sz : Nat) (A : Option Addr) (n c : Nat) (vs : List Value) (r : Int) (e : Ending) (w' : World) : Prop :=
  e = .returned (.int .i64 r) ∧ w'.ownsRow base E sz (.slice A n c) n vs ∧ w.grownBy w' (ob A)

theorem markIntS_l (A : Option Addr) (n c base : Nat) (k : Int) (xs : List Int) (w : World) (ho : w.ownsRow base 3 1 (.slice A n c) n (vI xs)) (hn : n ≤ 1099511627776) (hk0 : 0 ≤ k) (hk1 : k ≤ 1099511627776) :
    Calls Tryz.prog 19 #[.slice A n c, .int .i64 k] w (MarkP w base 3 1 A n c (vI (io k n)) (k + n)) := by
  have hl : xs.length = n := by have := own_len ho; rw [vI_length] at this; omega
  have HL := Lib.hid hl
  clear hl
  go_enter Tryz.func19, Tryz.ntmps19
  go_wp2
  go_loopw [1, 5] (fun t i wr => ∃ j : Nat, j ≤ n ∧ i = .int .i64 j ∧ t = .int .i64 (k + j) ∧ wr.ownsRow base 3 1 (.slice A n c) n (vI (io k j ++ xs.drop j)) ∧ w.grownBy wr (ob A)) (fun _ i _ => n - (intOf i).toNat)
  case atStart => exact ⟨0, Nat.zero_le _, rfl, by simp, by simpa [io] using ho, World.grownBy.refl _ _⟩
  case round =>
    obtain ⟨j, hj, rfl, rfl, hO, hg⟩ := hrel
    by_cases hlt : j < n
    · obtain ⟨g, rfl, hbg, hgw⟩ := own_at hO (by omega)
      have hjl : j < (io k j ++ xs.drop j).length := by rw [List.length_append, io_length, List.length_drop, HL.out]; omega
      have d1 := hO.cellAt j (by omega)
      rw [show (vI (io k j ++ xs.drop j))[j]? = some (.int .i64 (io k j ++ xs.drop j)[j]) from by simp only [vI, List.getElem?_map, List.getElem?_eq_getElem hjl, Option.map_some]] at d1
      generalize (io k j ++ xs.drop j)[j] = z at d1
      have f1 := hO.frozenAt j
      have hst := (hO.stored j (.int .i64 (k + j))).1
      rw [show (vI (io k j ++ xs.drop j)).set j (.int .i64 (k + j)) = vI (io k (j + 1) ++ xs.drop (j + 1)) from by rw [← mark_step k xs j (by rw [HL.out]; omega)]; simp [vI, List.map_set]] at hst
      have HS := Lib.hid hst
      have HO := Lib.hid hO
      clear hst hO
      go_wp2
      exact ⟨⟨j + 1, by omega, by go_num, by rw [show k + (j : Int) + 1 = k + ((j + 1 : Nat) : Int) from by omega], HS.out, grown_set (p := ⟨g, j, none⟩) hg rfl _⟩, by simp [intOf]; omega⟩
    · have hkk : j = n := by omega
      subst hkk
      rw [List.drop_of_length_le (by rw [HL.out]; omega), List.append_nil] at hO
      have HO := Lib.hid hO
      clear hO
      go_wp2
      go_ret
      exact ⟨rfl, HO.out, hg⟩

theorem heldIntS_l (A : Option Addr) (n c : Nat) (k : Int) (w : World) (hr : Rd w A (vI (io k n))) (hn : n ≤ 1099511627776) (hk0 : 0 ≤ k) (hk1 : k ≤ 1099511627776) :
    Calls Tryz.prog 20 #[.slice A n c, .int .i64 k] w (Ret w (.int .i64 (k + n))) := by
  go_enter Tryz.func20, Tryz.ntmps20
  go_wp2
  go_loopw [1, 5] (fun t i wr => ∃ j : Nat, j ≤ n ∧ i = .int .i64 j ∧ t = .int .i64 (k + j) ∧ Below w.heap.size w wr) (fun _ i _ => n - (intOf i).toNat)
  case atStart => exact ⟨0, Nat.zero_le _, rfl, by simp, Below.refl _ _⟩
  case round =>
    obtain ⟨j, hj, rfl, rfl, hb⟩ := hrel
    by_cases hlt : j < n
    · obtain ⟨g, off, rfl, hgw, c1⟩ := RdI.at_ (hr.below hb) (k := j) (by rw [io_length]; omega)
      rw [io_get] at c1
      go_wp2
      exact ⟨⟨j + 1, by omega, by go_num, by rw [show k + (j : Int) + 1 = k + ((j + 1 : Nat) : Int) from by omega], hb⟩, by simp [intOf]; omega⟩
    · have hkk : j = n := by omega
      subst hkk
      go_wp2
      go_ret
      exact ⟨rfl, hb⟩
end Go.Proofs.YtcgjnonlndaoeaaGreatDoor

/- The laws' own functions on regions. -/
namespace Go.Proofs.YtcgjnonlndaoeaaGreatDoor
open Go.RowKit
set_option linter.unusedVariables false
attribute [local go_sem ↓] Go.wp_at_zero Go.wp_at_succ

theorem own_nI {w : World} {base e n c : Nat} {A : Option Addr} {xs : List Int} (h : w.ownsRow base e 1 (.slice A n c) n (vI xs)) : xs.length = n := by
  have := own_len h
  rw [vI_length] at this
  omega
theorem own_far {w : World} {base e size n c : Nat} {A : Option Addr} {xs : List Value} {p : Addr} (h : w.ownsRow base e size (.slice A n c) n xs) (u : Value) (hp : ∀ g, ob A = some g → g ≠ p.block) : (w.setCell p u).ownsRow base e size (.slice A n c) n xs :=
  h.kept (grown_set (World.grownBy.refl w (some p.block)) rfl u) (by
    rw [ownBlock_slice]
    cases hA : ob A with
    | none => exact .inl rfl
    | some g => right; intro e; injection e with e; exact hp g hA e)
theorem own_kept2 {w w' : World} {base e size n c : Nat} {A : Option Addr} {xs : List Value} {X : Option Addr} (h : w.ownsRow base e size (.slice A n c) n xs) (hg : w.grownBy w' (ob X)) (hn : ∀ g, ob A = some g → ob X ≠ some g) : w'.ownsRow base e size (.slice A n c) n xs :=
  h.kept hg (by
    rw [ownBlock_slice]
    cases hA : ob A with
    | none => exact .inl rfl
    | some g => right; intro e; exact hn g hA e.symm)
theorem grown_alloc0 {w w' : World} {o : Obj} {row : Option Nat} (h : (w.alloc o).grownBy w' row) : w.grownBy w' row :=
  ⟨h.os, h.tape, h.output, by have := h.size; simp at this; omega, fun k hk hne => (h.block k (by simp; omega) hne).trans (Below.heap_alloc w o k hk)⟩
theorem szIntS_l (A : Option Addr) (n c : Nat) (m : Int) (w : World) (hm : n ≤ maxLen) (h0 : 0 ≤ m) (h1 : m ≤ 1048576) :
    Calls Tryz.prog 35 #[.slice A n c, .int .i64 m] w (Ret w (.int .i64 (if m < (n : Int) then -1 else m - n))) := by
  unfold maxLen at hm
  by_cases h : m < (n : Int)
  · have hlt : m - (n : Int) < 0 := by omega
    go_enter Tryz.func35, Tryz.ntmps35
    go_wp2
    go_ret
    exact ⟨rfl, (by (repeat (first | with_reducible exact Below.refl _ _ | with_reducible assumption | with_reducible apply bel_alloc | with_reducible apply bel_drew | with_reducible apply bel_drewN | ((with_reducible refine bel_set ?_ ?_); rotate_left; (simp <;> omega)) | (with_reducible refine bel_trans ?_ (by with_reducible assumption)))))⟩
  · have hlt : ¬ m - (n : Int) < 0 := by omega
    go_enter Tryz.func35, Tryz.ntmps35
    go_wp2
    go_ret
    exact ⟨rfl, (by (repeat (first | with_reducible exact Below.refl _ _ | with_reducible assumption | with_reducible apply bel_alloc | with_reducible apply bel_drew | with_reducible apply bel_drewN | ((with_reducible refine bel_set ?_ ?_); rotate_left; (simp <;> omega)) | (with_reducible refine bel_trans ?_ (by with_reducible assumption)))))⟩
/-- What is left behind a region's rows. -/
def szR (m : Int) (n : Nat) : Int := if m < (n : Int) then -1 else m - n
theorem szRegion_l (W : Int) (A : Option Addr) (n c : Nat) (m : Int) (w : World) (hn : n ≤ maxLen) (h0 : 0 ≤ m) (h1 : m ≤ 1048576) :
    Calls Tryz.prog 6 #[.agg #[.int .i64 W, .slice A n c], .int .i64 m] w (Ret w (.int .i64 (szR m n))) := by
  by_cases hlt : m < (n : Int)
  · have HV : Hid (szR m n = -1) := if_pos hlt
    go_enter Tryz.func6, Tryz.ntmps6
    go_wp2_with fail
    refine (szIntS_l A n c m _ hn h0 h1).mono ?_
    rw [if_pos hlt]
    rintro e w1 ⟨rfl, hb1⟩
    go_wp2_with fail
    go_ret
    exact ⟨by rw [HV.out]; rfl, (by (repeat (first | with_reducible exact Below.refl _ _ | with_reducible assumption | with_reducible apply bel_alloc | with_reducible apply bel_drew | with_reducible apply bel_drewN | ((with_reducible refine bel_set ?_ ?_); rotate_left; (simp <;> omega)) | (with_reducible refine bel_trans ?_ (by with_reducible assumption)))))⟩
  · have HV : Hid (szR m n = m - n) := if_neg hlt
    have hd : ¬ m - (n : Int) < 0 := by omega
    go_enter Tryz.func6, Tryz.ntmps6
    go_wp2_with fail
    refine (szIntS_l A n c m _ hn h0 h1).mono ?_
    rw [if_neg (by omega)]
    rintro e w1 ⟨rfl, hb1⟩
    go_wp2_with fail
    go_ret
    exact ⟨by rw [HV.out]; rfl, (by (repeat (first | with_reducible exact Below.refl _ _ | with_reducible assumption | with_reducible apply bel_alloc | with_reducible apply bel_drew | with_reducible apply bel_drewN | ((with_reducible refine bel_set ?_ ?_); rotate_left; (simp <;> omega)) | (with_reducible refine bel_trans ?_ (by with_reducible assumption)))))⟩
/-- A result that is a region whose rows are the call's own. -/
def RetR (w : World) (W : Int) (rows : List Int) (e : Ending) (w' : World) : Prop :=
  ∃ A n c, e = .returned (.agg #[.int .i64 W, .slice A n c]) ∧ w'.ownsRow w.heap.size 3 1 (.slice A n c) n (vI rows) ∧ Below w.heap.size w w'
theorem toRegion_l (W : Int) (A : Option Addr) (n c : Nat) (rows : List Int) (w : World) (hr : Rd w A (vI rows)) (hl : rows.length = n) (hn : n ≤ 1048576) :
    Calls Tryz.prog 9 #[.agg #[.int .i64 W, .slice A n c]] w (RetR w W rows) := by
  have HL := Lib.hid hl
  clear hl
  go_enter Tryz.func9, Tryz.ntmps9
  go_wp2_with fail
  refine (toIntS_l _ _ _ rows _ (hr.below (by (repeat (first | with_reducible exact Below.refl _ _ | with_reducible assumption | with_reducible apply bel_alloc | with_reducible apply bel_drew | with_reducible apply bel_drewN | ((with_reducible refine bel_set ?_ ?_); rotate_left; (simp <;> omega)) | (with_reducible refine bel_trans ?_ (by with_reducible assumption)))))) HL.out hn).mono ?_
  rintro e w1 ⟨B, q, cq, rfl, ho, hb1⟩
  obtain rfl : q = n := (own_nI ho).symm.trans HL.out
  have hsz := hb1.size
  simp only [World.size_alloc] at hsz
  have hB2 : Blk w1 (w.heap.size + 1 + 1) 29 #[.int .i64 W, .slice none 0 0] := Blk.below (by simpa using Blk.new ((w.alloc (Obj.cells #[Value.int IntKind.i64 W, Value.slice A q c] 24)).alloc (Obj.cells #[Value.int IntKind.i64 0, Value.slice none 0 0] 29)) 29 #[.int .i64 W, .slice none 0 0]) hb1
  have hB1 : Blk w1 (w.heap.size + 1) 29 #[.int .i64 0, .slice none 0 0] := Blk.below (Blk.alloc (by simpa using Blk.new (w.alloc (Obj.cells #[Value.int IntKind.i64 W, Value.slice A q c] 24)) 29 #[.int .i64 0, .slice none 0 0]) _) hb1
  have c20 : w1.cell? ⟨w.heap.size + 1 + 1, 0, none⟩ = some (.int .i64 W) := by simpa using hB2.cell 0
  have c21 : w1.cell? ⟨w.heap.size + 1 + 1, 1, none⟩ = some (.slice none 0 0) := by simpa using hB2.cell 1
  have c10 : w1.cell? ⟨w.heap.size + 1, 0, none⟩ = some (.int .i64 0) := by simpa using hB1.cell 0
  have c11 : w1.cell? ⟨w.heap.size + 1, 1, none⟩ = some (.slice none 0 0) := by simpa using hB1.cell 1
  have z20 := hB2.frozen 0
  have z21 := hB2.frozen 1
  have z10 := hB1.frozen 0
  have z11 := hB1.frozen 1
  have HO := Lib.hid ho
  have hD := (hB1.far (p := ⟨w.heap.size + 1 + 1, 1, none⟩) (by simp) (.slice B q cq)).set_ 0 (.int .i64 W)
  have e0 : ((w1.setCell ⟨w.heap.size + 1 + 1, 1, none⟩ (.slice B q cq)).setCell ⟨w.heap.size + 1, 0, none⟩ (.int .i64 W)).cell? ⟨w.heap.size + 1, 0, none⟩ = some (.int .i64 W) := by simpa using hD.cell 0
  have e1 : (((w1.setCell ⟨w.heap.size + 1 + 1, 1, none⟩ (.slice B q cq)).setCell ⟨w.heap.size + 1, 0, none⟩ (.int .i64 W)).setCell ⟨w.heap.size + 1, 1, none⟩ (.slice B q cq)).cell? ⟨w.heap.size + 1, 1, none⟩ = some (.slice B q cq) := by simpa using (hD.set_ 1 (.slice B q cq)).cell 1
  have E0 := Lib.hid e0
  have E1 := Lib.hid e1
  clear hB1 hB2 ho hD e0 e1
  go_wp2_with fail
  have e0 := E0.out
  have e1 := E1.out
  have ne : ∀ g, ob B = some g → g ≠ w.heap.size + 1 + 1 ∧ g ≠ w.heap.size + 1 := fun g e => by have := (own_lt HO.out g e).1; simp at this; omega
  exact bodyPost_ret (v := .agg #[.int .i64 W, .slice B q cq]) (by simp [results, Tryz.results9, go_sem, e0, e1]) rfl
    ⟨_, _, _, rfl, own_far (own_far (own_far (own_base HO.out (by simp; omega)) _ fun g e => (ne g e).1) _ fun g e => (ne g e).2) _ fun g e => (ne g e).2, (by (repeat (first | with_reducible exact Below.refl _ _ | with_reducible assumption | with_reducible apply bel_alloc | with_reducible apply bel_drew | with_reducible apply bel_drewN | ((with_reducible refine bel_set ?_ ?_); rotate_left; (simp <;> omega)) | (with_reducible refine bel_trans ?_ (by with_reducible assumption)))))⟩
theorem eqRegion_t (W : Int) (A A2 : Option Addr) (n c n2 c2 : Nat) (rows : List Int) (w : World) (hr : Rd w A (vI rows)) (hr2 : Rd w A2 (vI rows)) (hl : rows.length = n) (hl2 : rows.length = n2) (hn : n ≤ 1048576) :
    Calls Tryz.prog 12 #[.agg #[.int .i64 W, .slice A n c], .agg #[.int .i64 W, .slice A2 n2 c2]] w (Ret w (.bool true)) := by
  have HL := Lib.hid hl
  have HL2 := Lib.hid hl2
  clear hl hl2
  go_enter Tryz.func12, Tryz.ntmps12
  go_wp2_with fail
  refine (eqIntS_t _ _ _ _ _ _ rows _ (hr.below (by (repeat (first | with_reducible exact Below.refl _ _ | with_reducible assumption | with_reducible apply bel_alloc | with_reducible apply bel_drew | with_reducible apply bel_drewN | ((with_reducible refine bel_set ?_ ?_); rotate_left; (simp <;> omega)) | (with_reducible refine bel_trans ?_ (by with_reducible assumption)))))) (hr2.below (by (repeat (first | with_reducible exact Below.refl _ _ | with_reducible assumption | with_reducible apply bel_alloc | with_reducible apply bel_drew | with_reducible apply bel_drewN | ((with_reducible refine bel_set ?_ ?_); rotate_left; (simp <;> omega)) | (with_reducible refine bel_trans ?_ (by with_reducible assumption)))))) HL.out HL2.out (by omega)).mono ?_
  rintro e w1 ⟨rfl, hb1⟩
  go_wp2_with fail
  go_ret
  exact ⟨rfl, (by (repeat (first | with_reducible exact Below.refl _ _ | with_reducible assumption | with_reducible apply bel_alloc | with_reducible apply bel_drew | with_reducible apply bel_drewN | ((with_reducible refine bel_set ?_ ?_); rotate_left; (simp <;> omega)) | (with_reducible refine bel_trans ?_ (by with_reducible assumption)))))⟩
theorem markRegion_l (W : Int) (A : Option Addr) (n c base : Nat) (k : Int) (rows : List Int) (w : World) (ho : w.ownsRow base 3 1 (.slice A n c) n (vI rows)) (hn : n ≤ 1048576) (hk0 : 0 ≤ k) (hk1 : k ≤ 1099511627776) :
    Calls Tryz.prog 17 #[.agg #[.int .i64 W, .slice A n c], .int .i64 k] w (MarkP w base 3 1 A n c (vI (io k n)) (k + n)) := by
  go_enter Tryz.func17, Tryz.ntmps17
  go_wp2_with fail
  refine (markIntS_l _ _ _ base k rows _ (ho.alloc _) (by omega) hk0 hk1).mono ?_
  rintro e w1 ⟨rfl, ho2, hg2⟩
  have HO := Lib.hid ho2
  have HG := Lib.hid hg2
  clear ho2 hg2
  go_wp2_with fail
  go_ret
  exact ⟨rfl, HO.out, grown_alloc0 HG.out⟩
end Go.Proofs.YtcgjnonlndaoeaaGreatDoor

/- The laws' own marks on slices of cells. -/
namespace Go.Proofs.YtcgjnonlndaoeaaGreatDoor
open Go.RowKit
set_option linter.unusedVariables false
attribute [local go_sem ↓] Go.wp_at_zero Go.wp_at_succ


/-- k, k + 1 · k + 2, k + 3 · .. -/
def ioC (k : Int) (n : Nat) : List C := (List.range n).map fun (i : Nat) => (k + 2 * (i : Int), k + 2 * (i : Int) + 1)
theorem ioC_length (k : Int) (n : Nat) : (ioC k n).length = n := by simp [ioC]
theorem ioC_succ (k : Int) (n : Nat) : ioC k (n + 1) = ioC k n ++ [(k + 2 * n, k + 2 * n + 1)] := by simp [ioC, List.range_succ]
theorem ioC_get (k : Int) (n i : Nat) (h : i < (ioC k n).length) : (ioC k n)[i] = (k + 2 * i, k + 2 * i + 1) := by simp [ioC]
theorem markC_step (k : Int) (xs : List C) (j : Nat) (hj : j < xs.length) : (ioC k j ++ xs.drop j).set j (k + 2 * j, k + 2 * j + 1) = ioC k (j + 1) ++ xs.drop (j + 1) := by
  rw [List.set_append_right _ _ (by rw [ioC_length]; omega), ioC_length, Nat.sub_self, ioC_succ, List.append_assoc, List.drop_eq_getElem_cons hj]
  rfl
theorem markCellS_l (A : Option Addr) (n c base : Nat) (k : Int) (xs : List C) (w : World) (ho : w.ownsRow base 77 2 (.slice A n c) n (vC xs)) (hn : n ≤ 1099511627776) (hk0 : 0 ≤ k) (hk1 : k ≤ 1099511627776) :
    Calls Tryz.prog 52 #[.slice A n c, .int .i64 k] w (MarkP w base 77 2 A n c (vC (ioC k n)) (k + 2 * n)) := by
  have hl : xs.length = n := by have := own_len ho; rw [vC_length] at this; omega
  have HL := Lib.hid hl
  clear hl
  go_enter Tryz.func52, Tryz.ntmps52
  go_wp2
  go_loopw [1, 5] (fun t i wr => ∃ (j : Nat) (q : Int), j ≤ n ∧ i = .int .i64 j ∧ t = .int .i64 q ∧ q = k + 2 * j ∧ wr.ownsRow base 77 2 (.slice A n c) n (vC (ioC k j ++ xs.drop j)) ∧ w.grownBy wr (ob A)) (fun _ i _ => n - (intOf i).toNat)
  case atStart => exact ⟨0, k, Nat.zero_le _, rfl, rfl, by simp, by simpa [ioC] using ho, World.grownBy.refl _ _⟩
  case round =>
    obtain ⟨j, q, hj, rfl, rfl, hq, hO, hg⟩ := hrel
    by_cases hlt : j < n
    · obtain ⟨g, rfl, hbg, hgw⟩ := own_at hO (by omega)
      have hjl : j < (ioC k j ++ xs.drop j).length := by rw [List.length_append, ioC_length, List.length_drop, HL.out]; omega
      have d1 := hO.cellAt (j * 2) (by omega)
      rw [vC_get1 _ j hjl] at d1
      have f1 := hO.frozenAt (j * 2)
      have hst := (hO.stored (j * 2) (.int .i64 q)).1
      have d2 := hst.cellAt (j * 2 + 1) (by omega)
      rw [List.getElem?_set_ne (by omega), vC_get2 _ j hjl] at d2
      have f2 := hst.frozenAt (j * 2 + 1)
      have hst2 := (hst.stored (j * 2 + 1) (.int .i64 (q + 1))).1
      generalize (ioC k j ++ xs.drop j)[j] = z at d1 d2
      rw [vC_set_list _ j (q, q + 1), hq, markC_step k xs j (by rw [HL.out]; omega), ← hq] at hst2
      have q0 : 0 ≤ q := by omega
      have q1 : q ≤ 4398046511104 := by omega
      have HS := Lib.hid hst2
      have HQ := Lib.hid hq
      clear hst hst2 hO hq
      go_wp2
      exact ⟨⟨j + 1, q + 2, by omega, by go_num, by rw [show q + 1 + 1 = q + 2 from by omega], by have := HQ.out; omega, HS.out, grown_set (p := ⟨g, j * 2 + 1, none⟩) (grown_set (p := ⟨g, j * 2, none⟩) hg rfl _) rfl _⟩, by simp [intOf]; omega⟩
    · have hkk : j = n := by omega
      subst hkk
      rw [List.drop_of_length_le (by rw [HL.out]; omega), List.append_nil] at hO
      have HO := Lib.hid hO
      have HQ := Lib.hid hq
      clear hO hq
      go_wp2
      go_ret
      exact ⟨by rw [← HQ.out]; rfl, HO.out, hg⟩
end Go.Proofs.YtcgjnonlndaoeaaGreatDoor

/- The laws' own functions on slices of slices of integers: comparing, marking. -/
namespace Go.Proofs.YtcgjnonlndaoeaaGreatDoor
open Go.RowKit
set_option linter.unusedVariables false
attribute [local go_sem ↓] Go.wp_at_zero Go.wp_at_succ

end Go.Proofs.YtcgjnonlndaoeaaGreatDoor

/- Slices of slices of cells that are the call's own: copied, marked. -/
namespace Go.Proofs.YtcgjnonlndaoeaaGreatDoor
open Go.RowKit
set_option linter.unusedVariables false
attribute [local go_sem ↓] Go.wp_at_zero Go.wp_at_succ
/-- Only blocks in [lo, hi) are written. -/
structure Mid (lo hi : Nat) (w w' : World) : Prop where
  os : w'.os = w.os
  tape : w'.tape = w.tape
  output : w'.output = w.output
  size : w.heap.size ≤ w'.heap.size
  block : ∀ k, k < w.heap.size → (k < lo ∨ hi ≤ k) → w'.heap[k]? = w.heap[k]?
theorem Mid.refl (lo hi : Nat) (w : World) : Mid lo hi w w := ⟨rfl, rfl, rfl, Nat.le_refl _, fun _ _ _ => rfl⟩
theorem Mid.trans {lo hi : Nat} {w w1 w2 : World} (h : Mid lo hi w w1) (k : Mid lo hi w1 w2) : Mid lo hi w w2 :=
  ⟨k.os.trans h.os, k.tape.trans h.tape, k.output.trans h.output, Nat.le_trans h.size k.size, fun i hi2 hb => (k.block i (Nat.lt_of_lt_of_le hi2 h.size) hb).trans (h.block i hi2 hb)⟩
theorem Mid.of_below {lo hi : Nat} {w w1 : World} (h : Below w.heap.size w w1) : Mid lo hi w w1 := ⟨h.os, h.tape, h.output, h.size, fun k hk _ => h.block k hk⟩
theorem Mid.of_grown {lo hi : Nat} {w w1 : World} {row : Option Nat} (h : w.grownBy w1 row) (hr : ∀ g, row = some g → lo ≤ g ∧ g < hi) : Mid lo hi w w1 :=
  ⟨h.os, h.tape, h.output, h.size, fun k hk hb => h.block k hk fun e => by have := hr k e.symm; omega⟩
theorem Mid.below {lo hi : Nat} {w w1 : World} (h : Mid lo hi w w1) (hl : lo ≤ w.heap.size) : Below lo w w1 := ⟨h.os, h.tape, h.output, h.size, fun k hk => h.block k (by omega) (.inl hk)⟩
theorem own_mid {lo hi base e n c size : Nat} {w w1 : World} {A : Option Addr} {xs : List Value} (h : w.ownsRow base e size (.slice A n c) n xs) (hm : Mid lo hi w w1) (hb : hi ≤ base) : w1.ownsRow base e size (.slice A n c) n xs := by
  refine ⟨h.1, ?_⟩
  rcases h.2 with hn | ⟨g, cap, cur, hv, hg, hgg, rest⟩
  · exact .inl hn
  · exact .inr ⟨g, cap, cur, hv, hg, (hm.block g (by
      rcases Nat.lt_or_ge g w.heap.size with h1 | h1
      · exact h1
      · rw [Array.getElem?_eq_none (by omega)] at hgg; cases hgg) (.inr (by omega))).trans hgg, rest⟩
theorem Own2.mid {lo hi base : Nat} {w w1 : World} {B : Option Addr} {n c : Nat} {hs : List H} {F : List (List Int)} (h : Own2 base w B n c hs F) (hm : Mid lo hi w w1) (hb : hi ≤ base) : Own2 base w1 B n c hs F :=
  ⟨own_mid h.own hm hb, h.len, fun k a b => own_mid (h.row k a b) hm hb, h.off, h.sep⟩
/-- Rows of cells of the call's own, below hi. -/
structure OwnC (base hi : Nat) (w : World) (A : Option Addr) (n : Nat) (hs : List H) (F : List (List C)) : Prop where
  top : Rd w A (vS hs)
  hlen : hs.length = n
  flen : F.length = n
  row : ∀ k (a : k < hs.length) (b : k < F.length), w.ownsRow base 77 2 (.slice hs[k].1 hs[k].2.1 hs[k].2.2) hs[k].2.1 (vC F[k])
  lt : ∀ x ∈ hs, ∀ g, ob x.1 = some g → g < hi
  off : ∀ g, ob A = some g → away hs g
  sep : ∀ i j (a : i < hs.length) (b : j < hs.length), i ≠ j → ∀ g, ob hs[i].1 = some g → ob hs[j].1 ≠ some g
section
variable {base hi : Nat} {w w' : World} {A : Option Addr} {n : Nat} {hs : List H} {F : List (List C)}
theorem OwnC.rlen (h : OwnC base hi w A n hs F) {k : Nat} (a : k < hs.length) (b : k < F.length) : F[k].length = hs[k].2.1 := by have := own_len (h.row k a b); rw [vC_length] at this; omega
theorem OwnC.rdp (h : OwnC base hi w A n hs F) : RdP w A n hs F := ⟨h.top, h.hlen, h.flen, fun k a b => ⟨h.rlen a b, Rd.of_own (h.row k a b)⟩⟩
theorem OwnC.below (h : OwnC base hi w A n hs F) (hb : Below w.heap.size w w') : OwnC base hi w' A n hs F :=
  ⟨h.top.below hb, h.hlen, h.flen, fun k a b => own_keep (h.row k a b) hb, h.lt, h.off, h.sep⟩
theorem OwnC.grown {row : Option Nat} (h : OwnC base hi w A n hs F) (hg : w.grownBy w' row) (hn : ∀ g, row = some g → g < base) (hA : ∀ g, ob A = some g → base ≤ g) : OwnC base hi w' A n hs F :=
  ⟨h.top.grown hg (fun g e r => by have := hA g e; have := hn g r.symm; omega), h.hlen, h.flen, fun k a b => own_kept (h.row k a b) hg fun g e r => by have := (own_lt (h.row k a b) g e).1; have := hn g r; omega, h.lt, h.off, h.sep⟩
theorem OwnC.put (h : OwnC base hi w A n hs F) {k : Nat} (a : k < hs.length) (f : List C) (hr : w'.ownsRow base 77 2 (.slice hs[k].1 hs[k].2.1 hs[k].2.2) hs[k].2.1 (vC f)) (hg : w.grownBy w' (ob hs[k].1)) : OwnC base hi w' A n hs (F.set k f) := by
  refine ⟨h.top.grown hg (fun g e r => h.off g e _ (List.getElem_mem a) r.symm), h.hlen, by simpa using h.flen, fun j a' b' => ?_, h.lt, h.off, h.sep⟩
  by_cases e : k = j
  · subst e
    rw [List.getElem_set_self]
    exact hr
  · rw [List.getElem_set_ne e]
    exact own_kept (h.row j a' (by simpa using b')) hg fun g e1 r => h.sep k j a a' e g r e1
end
theorem own_set_farK {w : World} {base e n c size b k : Nat} {A : Option Addr} {xs : List Value} {u : Value} (h : w.ownsRow base e size (.slice A n c) n xs) (hb : b < base) : (w.setCell ⟨b, k, none⟩ u).ownsRow base e size (.slice A n c) n xs := by
  refine ⟨h.1, ?_⟩
  rcases h.2 with hn | ⟨g, cap, cur, hv, hg, hgg, rest⟩
  · exact .inl hn
  · exact .inr ⟨g, cap, cur, hv, hg, (Below.heap_setCell w _ u g (by show g ≠ b; omega)).trans hgg, rest⟩
/-- A copy of slices of cells: all of it the call's own. -/
def RetPC (w : World) (n : Nat) (F : List (List C)) (e : Ending) (w' : World) : Prop :=
  ∃ qs c', e = .returned (.slice (some ⟨w.heap.size, 0, none⟩) n c') ∧ OwnC w.heap.size w'.heap.size w' (some ⟨w.heap.size, 0, none⟩) n qs F ∧ Below w.heap.size w w'
set_option maxHeartbeats 1600000 in
theorem toCellSSo_l (A : Option Addr) (n c : Nat) (hs : List H) (F : List (List C)) (w : World) (h : RdP w A n hs F) (hn : n ≤ 1048576) (hm : totC F ≤ 1048576) :
    Calls Tryz.prog 10 #[.slice A n c] w (RetPC w n F) := by
  have hmk := mk_CS w n hn
  have HP := Lib.hid h
  clear h
  go_enter Tryz.func10, Tryz.ntmps10
  go_wp2
  go_loopw [4] (fun i wr => ∃ (k : Nat) (qs : List H), k ≤ n ∧ i = .int .i64 k ∧ qs.length = k ∧ Blk wr w.heap.size 59 (vS (qs ++ zeS (n - k))).toArray ∧ (∀ (i : Nat) (x : H) (f : List C), qs[i]? = some x → F[i]? = some f → wr.ownsRow (w.heap.size + 1) 77 2 (.slice x.1 x.2.1 x.2.2) x.2.1 (vC f)) ∧ (∀ (i j : Nat) (x y : H), i ≠ j → qs[i]? = some x → qs[j]? = some y → ∀ g, ob x.1 = some g → ob y.1 ≠ some g) ∧ (∀ x ∈ qs, ∀ g, ob x.1 = some g → g < wr.heap.size) ∧ Below w.heap.size w wr) (fun i _ => n - (intOf i).toNat)
  case atStart => exact ⟨0, [], Nat.zero_le _, rfl, rfl, Blk.new _ _ _, fun i x f h => by simp at h, fun i j x y _ h => by simp at h, fun x hx => by simp at hx, (by (repeat (first | with_reducible exact Below.refl _ _ | with_reducible assumption | with_reducible apply bel_alloc | with_reducible apply bel_drew | with_reducible apply bel_drewN | ((with_reducible refine bel_set ?_ ?_); rotate_left; (simp <;> omega)) | (with_reducible refine bel_trans ?_ (by with_reducible assumption)))))⟩
  case round =>
    clear hmk
    obtain ⟨k, qs, hk, rfl, hql, hB, hq, hsp, hlt2, hb⟩ := hrel
    by_cases hlt : k < n
    · have hk0 : (0 : Int) ≤ (k : Int) := by omega
      have hk1 : (k : Int) < (n : Int) := by omega
      obtain ⟨x, f, g, off, hsx, hfx, rfl, hg, c1, hfl, hrd⟩ := (HP.out.below hb).at_ hlt
      have hfm := totC_row F hfx
      obtain ⟨B1, m1, k1⟩ := x
      dsimp only at c1 hfl hrd
      have hm1 : m1 ≤ 1048576 := by omega
      have hgw := hB.lt
      have HB := Lib.hid hB
      have HQ := Lib.hid hq
      have HSP := Lib.hid hsp
      have HLT := Lib.hid hlt2
      have HQL := Lib.hid hql
      have HFX := Lib.hid hfx
      have HFL := Lib.hid hfl
      have HRD := Lib.hid hrd
      clear hsx hfx hfl hrd hB hq hql hfm hsp hlt2
      go_wp2_with fail
      refine (toCellS_l _ _ _ f _ HRD.out HFL.out hm1).mono ?_
      rintro e w1 ⟨D, q, cq, rfl, ho, hb1⟩
      have hqf : q = m1 := by have := own_len ho; rw [vC_length] at this; have := HFL.out; omega
      subst hqf
      have hB1 := HB.out.below hb1
      have hkl : k < (qs ++ zeS (n - k)).length := by rw [List.length_append, zeS_length, HQL.out]; omega
      have d1 := blkS_cell hB1 hkl
      have e4 : (qs ++ zeS (n - k))[k]'hkl = (none, 0, 0) := by
        have := HQL.out
        rw [List.getElem_append_right (by omega)]
        simp [zeS]
      rw [e4] at d1
      dsimp only at d1
      have f1 := hB1.frozen k
      have hst := blkS_set hB1 k D q cq
      have e5 : (qs ++ zeS (n - k)).set k (D, q, cq) = (qs ++ [(D, q, cq)]) ++ zeS (n - (k + 1)) := by
        have := HQL.out
        rw [List.set_append_right _ _ (by omega), this, Nat.sub_self, show n - k = (n - (k + 1)) + 1 from by omega]
        simp [zeS, List.replicate_succ]
      rw [e5] at hst
      have HST := Lib.hid hst
      have HO := Lib.hid ho
      have HB1 := Lib.hid hB1
      have hgw1 : w.heap.size < w1.heap.size := hB1.lt
      clear e4 e5 hst ho hB1 hkl
      go_wp2_with fail
      have hsz1 := hb1.size
      have hget : ∀ (i : Nat) (y : H), (qs ++ [(D, q, cq)])[i]? = some y → (i < qs.length ∧ qs[i]? = some y) ∨ (i = k ∧ y = (D, q, cq)) := fun i y hy => by
        by_cases hi : i < qs.length
        · rw [List.getElem?_append_left hi] at hy
          exact .inl ⟨hi, hy⟩
        · have hik : i = k := by
            have h1 : i < (qs ++ [(D, q, cq)]).length := (List.getElem?_eq_some_iff.1 hy).1
            have := HQL.out
            simp at h1; omega
          subst hik
          have := HQL.out
          rw [List.getElem?_append_right (by omega), this, Nat.sub_self] at hy
          simp at hy
          exact .inr ⟨rfl, hy.symm⟩
      refine ⟨⟨k + 1, qs ++ [(D, q, cq)], by omega, by go_num, by simp [HQL.out], HST.out, ?_, ?_, ?_, (by (repeat (first | with_reducible exact Below.refl _ _ | with_reducible assumption | with_reducible apply bel_alloc | with_reducible apply bel_drew | with_reducible apply bel_drewN | ((with_reducible refine bel_set ?_ ?_); rotate_left; (simp <;> omega)) | (with_reducible refine bel_trans ?_ (by with_reducible assumption)))))⟩, by simp [intOf]; omega⟩
      · intro i y f' hy hf'
        rcases hget i y hy with ⟨hi, hy⟩ | ⟨rfl, rfl⟩
        · exact own_set_farK (own_keep (HQ.out i y f' hy hf') hb1) (by omega)
        · have : f' = f := by have := HFX.out; rw [hf'] at this; injection this
          subst this
          exact own_set_farK (own_mono2 HO.out (by omega)) (by omega)
      · intro i j x y hij hx hy g' e
        rcases hget i x hx with ⟨hi, hx⟩ | ⟨rfl, rfl⟩
        · rcases hget j y hy with ⟨hj, hy⟩ | ⟨rfl, rfl⟩
          · exact HSP.out i j x y hij hx hy g' e
          · intro r
            have h1 := HLT.out x (List.mem_of_getElem? hx) g' e
            have h2 := (own_lt HO.out g' r).1
            omega
        · rcases hget j y hy with ⟨hj, hy⟩ | ⟨rfl, rfl⟩
          · intro r
            have h1 := HLT.out y (List.mem_of_getElem? hy) g' r
            have h2 := (own_lt HO.out g' e).1
            omega
          · omega
      · intro x hx g' e
        rw [World.size_setCell]
        rcases List.mem_append.1 hx with hx | hx
        · have := HLT.out x hx g' e
          omega
        · simp only [List.mem_singleton] at hx
          subst hx
          exact (own_lt HO.out g' e).2
    · have hkn : k = n := by omega
      subst hkn
      rw [Nat.sub_self, show zeS 0 = [] from rfl, List.append_nil] at hB
      have ho := own_blk hB (base := w.heap.size) (size := 1) (n := k) (by simp [vS_length, hql]) (Nat.le_refl _) (by unfold maxLen; omega)
      have hP : OwnC w.heap.size wr.heap.size wr (some ⟨w.heap.size, 0, none⟩) k qs F := ⟨by simpa using Rd.of_own ho, hql, HP.out.flen, fun i a b => own_mono2 (hq i _ _ (List.getElem?_eq_getElem a) (List.getElem?_eq_getElem b)) (by omega), hlt2, fun g e x hx r => by
        simp only [ob, Option.map_some, Option.some.injEq] at e
        subst e
        obtain ⟨t, ht, rfl⟩ := List.mem_iff_getElem.1 hx
        have := (own_lt (hq t _ _ (List.getElem?_eq_getElem ht) (List.getElem?_eq_getElem (by rw [HP.out.flen]; omega))) _ r).1
        omega, fun i j a b hij g e => hsp i j _ _ hij (List.getElem?_eq_getElem a) (List.getElem?_eq_getElem b) g e⟩
      have HR := Lib.hid hP
      have hk1 : ¬ (k : Int) < (k : Int) := by omega
      clear hB hq ho hP hql hsp hlt2
      go_wp2
      go_ret
      exact ⟨qs, _, rfl, HR.out, hb⟩
set_option maxHeartbeats 1600000 in
theorem markCellSS_l (base hi : Nat) (A : Option Addr) (n c : Nat) (k : Int) (hs : List H) (F : List (List C)) (w : World) (h : OwnC base hi w A n hs F) (hbs : base ≤ w.heap.size) (hn : n ≤ 1048576) (hm : totC F ≤ 1048576) (hk0 : 0 ≤ k) (hk1 : k ≤ 1048577) :
    Calls Tryz.prog 18 #[.slice A n c, .int .i64 k] w (fun e w' => e = .returned (.int .i64 (k + 2 * totC F)) ∧ Mid base hi w w') := by
  have HFL := Lib.hid h.flen
  have HHL := Lib.hid h.hlen
  have H1 := Lib.hid h
  clear h
  go_enter Tryz.func18, Tryz.ntmps18
  go_wp2
  go_loopw [1, 5] (fun t i wr => ∃ (j : Nat) (t' : Int) (F' : List (List C)), j ≤ n ∧ i = .int .i64 j ∧ t = .int .i64 t' ∧ t' = k + 2 * totC (F.take j) ∧ F'.map List.length = F.map List.length ∧ OwnC base hi wr A n hs F' ∧ Mid base hi w wr) (fun _ i _ => n - (intOf i).toNat)
  case atStart => exact ⟨0, k, F, Nat.zero_le _, rfl, rfl, by simp [totC], rfl, H1.out, Mid.refl _ _ _⟩
  case round =>
    clear H1
    obtain ⟨j, t', F', hj, rfl, rfl, ht, hlen, hO, hb⟩ := hrel
    by_cases hlt : j < n
    · have hj0 : (0 : Int) ≤ (j : Int) := by omega
      have hj1 : (j : Int) < (n : Int) := by omega
      have a1 : j < hs.length := by rw [HHL.out]; exact hlt
      have a3 : j < F.length := by rw [HFL.out]; exact hlt
      have a4 : j < F'.length := by rw [hO.flen]; exact hlt
      obtain ⟨g, off, rfl, hg, d1⟩ := RdS.at_ hO.top a1
      have r1 := hO.row j a1 a4
      have l1 := hO.rlen a1 a4
      have hl2 : F'[j].length = F[j].length := by
        have h2 : (F'.map List.length)[j]? = (F.map List.length)[j]? := by rw [hlen]
        simpa [a3, a4] using h2
      have l3 := totC_take F j a3
      have l4 := totC_le F (j + 1)
      have P1 : ∀ (w' : World) f, w'.ownsRow base 77 2 (.slice hs[j].1 hs[j].2.1 hs[j].2.2) hs[j].2.1 (vC f) → wr.grownBy w' (ob hs[j].1) → OwnC base hi w' (some ⟨g, off, none⟩) n hs (F'.set j f) := fun w' f => hO.put a1 f
      have P2 : ∀ g, ob hs[j].1 = some g → base ≤ g ∧ g < hi := fun g e => ⟨(own_lt r1 g e).1, hO.lt _ (List.getElem_mem a1) g e⟩
      have P3 : ∀ f : List C, f.length = hs[j].2.1 → (F'.set j f).map List.length = F.map List.length := fun f hf => by
        rw [← hlen]
        apply List.ext_getElem (by simp)
        intro i h5 h6
        simp only [List.getElem_map]
        by_cases e : j = i
        · subst e; rw [List.getElem_set_self, hf, ← l1]
        · rw [List.getElem_set_ne e]
      obtain ⟨⟨B1, m1, k1⟩, e1⟩ : ∃ x, hs[j] = x := ⟨_, rfl⟩
      rw [e1] at d1 r1 l1 P1 P2 P3
      dsimp only at d1 r1 l1 P1 P2 P3
      have hm1 : F[j].length = m1 := by omega
      have ht0 : (0 : Int) ≤ t' := by omega
      have ht1 : t' ≤ 1099511627776 := by omega
      have hmm : m1 ≤ 1099511627776 := by omega
      have ht2 : t' + 2 * (m1 : Int) = k + 2 * totC (F.take (j + 1)) := by rw [ht, l3]; omega
      have ht4 : t' + 2 * (m1 : Int) ≤ 9000000 := by omega
      have HP1 := Lib.hid P1
      have HP2 := Lib.hid P2
      have HP3 := Lib.hid P3
      have R1 := Lib.hid r1
      have T2 := Lib.hid ht2
      have HB := Lib.hid hb
      clear e1 l1 l3 l4 r1 hO ht P1 P2 P3 ht2 hm1 hl2 hlen hb
      go_wp2_with fail
      refine (markCellS_l _ _ _ base t' _ _ R1.out hmm ht0 ht1).mono ?_
      rintro e w1 ⟨rfl, o1, g1⟩
      have ht3 : (0 : Int) ≤ t' + 2 * (m1 : Int) := by omega
      have HO2 := Lib.hid (HP1.out _ _ o1 g1)
      have HM := Lib.hid (HB.out.trans (Mid.of_grown g1 HP2.out))
      have HL3 := Lib.hid (HP3.out (ioC t' m1) (ioC_length _ _))
      clear o1 g1
      go_wp2_with fail
      exact ⟨⟨j + 1, t' + 2 * (m1 : Int), _, by omega, by go_num, rfl, T2.out, HL3.out, HO2.out, HM.out⟩, by simp [intOf]; omega⟩
    · have hj1 : ¬ (j : Int) < (n : Int) := by omega
      have hjn : j = n := by omega
      subst hjn
      rw [List.take_of_length_le (by rw [HFL.out]; omega)] at ht
      have HT := Lib.hid ht
      have HB := Lib.hid hb
      clear ht hlen hO hb
      go_wp2
      go_ret
      exact ⟨by rw [← HT.out]; rfl, HB.out⟩
end Go.Proofs.YtcgjnonlndaoeaaGreatDoor
