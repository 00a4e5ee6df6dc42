/- The shapes with one cell more: the program. -/
import Derived.Test.YteelmhmdnljjnaaFixM
import Derived.Test.YteelmhmdnljjnaaCornI
import Derived.Test.YteelmhmdnljjnaaPutI
import Derived.Test.YteelmhmdnljjnaaRgk
import Derived.Test.YteelmhmdnljjnaaWpC
import Derived.Outline
import Derived.WalkLawsBesides
import Derived.WalkSpells
import Derived.BigQuiet
import Derived.Deep.QuietTactic
import Derived.Deep.RegionHeld3
import Derived.Deep.RegionWith
import Derived.Deep.DeepCutAuto
import Derived.Deep.CutBlock
import Derived.Deep.DrawnRows
namespace Go.Proofs.Yteelmhmdnljjnaa
open Go.RowKit
set_option linter.unusedVariables false
attribute [local go_sem ↓] Go.wp_at_zero Go.wp_at_succ

theorem sides_i (x y : Int) (w : World) (h : -100 ≤ x ∧ x ≤ 100 ∧ -100 ≤ y ∧ y ≤ 100) : Calls Try.prog 38 #[.agg #[.int .i64 x, .int .i64 y]] w (RetS w 36 2 (vC (sidesV (x, y)))) := by
  obtain ⟨h1, h2, h3, h4⟩ := h
  have e1 : IntKind.i64.wrap (y - 1) = y - 1 := Go.IntWalk.i64_in _ (by omega)
  have e2 : IntKind.i64.wrap (x - 1) = x - 1 := Go.IntWalk.i64_in _ (by omega)
  have e3 : IntKind.i64.wrap (x + 1) = x + 1 := Go.IntWalk.i64_in _ (by omega)
  have e4 : IntKind.i64.wrap (y + 1) = y + 1 := Go.IntWalk.i64_in _ (by omega)
  have ho : ((w.alloc (.cells #[.int .i64 x, .int .i64 y] 36)).alloc (.cells #[.int .i64 x, .int .i64 (y - 1), .int .i64 (x - 1), .int .i64 y, .int .i64 (x + 1), .int .i64 y, .int .i64 x, .int .i64 (y + 1)] 36)).ownsRow w.heap.size 36 2 (.slice (some ⟨w.heap.size + 1, 0, none⟩) 4 4) 4 (vC (sidesV (x, y))) := by
    have := own_new (w.alloc (.cells #[.int .i64 x, .int .i64 y] 36)) 36 2 4 #[.int .i64 x, .int .i64 (y - 1), .int .i64 (x - 1), .int .i64 y, .int .i64 (x + 1), .int .i64 y, .int .i64 x, .int .i64 (y + 1)] rfl (by simp [maxLen]) (base := w.heap.size) (by simp)
    simpa [sidesV, vC] using this
  have HO := Lib.hid ho
  clear ho
  go_enter Try.func38, Try.ntmps38
  go_wp2
  go_ret
  exact ⟨_, 4, 4, by simp, HO.out, (by (repeat (first | with_reducible exact Below.refl _ _ | with_reducible assumption | with_reducible apply bel_alloc | with_reducible apply bel_drew | with_reducible apply bel_drewN | ((with_reducible refine bel_set ?_ ?_); rotate_left; (simp <;> omega)) | (with_reducible refine bel_trans ?_ (by with_reducible assumption)))))⟩
set_option maxRecDepth 100000 in
set_option maxHeartbeats 6400000 in
theorem extensions_i (A : Option Addr) (n c : Nat) (xs : List C) (w : World) (hr : Rd w A (vC xs)) (hl : xs.length = n) (hs : isShape xs = true) :
    Calls Try.prog 52 #[.slice A n c] w (RetF w (extV xs)) := by
  have hn8 := (shape_len hs).2
  have hV : extV xs = extTo sidesV xs n := by unfold extV; rw [hl]
  have HV := Lib.hid hV
  have HL := Lib.hid hl
  have HR := Lib.hid hr
  have HSH := Lib.hid hs
  rw [hl] at hn8
  have hnn : n ≤ 1099511627776 := by omega
  have hn7 : n ≤ 1048576 := by omega
  clear hl hr hs hV
  go_enter Try.func52, Try.ntmps52
  go_wp2
  go_loopw [11, 3] (fun e11 e3 wr => ∃ (k q cq : Nat) (D : Option Addr) (hs : List H), k ≤ n ∧ e11 = .int .i64 k ∧ e3 = .slice D q cq ∧ OwnF w.heap.size wr D q cq hs (extTo sidesV xs k) ∧ Below w.heap.size w wr) (fun e11 _ _ => n - (intOf e11).toNat)
  case atStart => exact ⟨0, 0, 0, none, [], Nat.zero_le _, rfl, rfl, OwnF.nil _ _, Below.refl _ _⟩
  case round =>
    obtain ⟨k, q, cq, D, hs, hk, rfl, rfl, hO, hb⟩ := hrel
    by_cases hlt : k < n
    · have hkl : k < xs.length := by rw [HL.out]; exact hlt
      have hk0 : (0 : Int) ≤ (k : Int) := by omega
      have hk1 : (k : Int) < (n : Int) := by omega
      obtain ⟨g, off, hA, hg, d1, d2⟩ := RdC.at_ (HR.out.below hb) hkl
      subst hA
      have hon := shape_onB HSH.out _ (List.getElem_mem hkl)
      have hst := extTo_succ sidesV xs k hkl
      have hsl := extTo_len sidesV (fun _ => rfl) xs k (by omega)
      obtain ⟨p, hp⟩ : ∃ p, xs[k].1 = p := ⟨_, rfl⟩
      obtain ⟨r, hrr⟩ : ∃ r, xs[k].2 = r := ⟨_, rfl⟩
      rw [show xs[k] = (p, r) from Prod.ext hp hrr] at hon hst
      rw [hp] at d1
      rw [hrr] at d2
      have hsv := sidesV_small hon
      have hpr : -1 ≤ p ∧ p ≤ 8 ∧ -1 ≤ r ∧ r ≤ 8 := by simp [onB] at hon; omega
      have hfine := extTo_fine sidesV xs k
      obtain ⟨F0, hF0⟩ : ∃ F0, extTo sidesV xs k = F0 := ⟨_, rfl⟩
      rw [hF0] at hst hsl hO hfine
      have HST := Lib.hid hst
      have HFI := Lib.hid hfine
      have HSV := Lib.hid hsv
      have HO := Lib.hid hO
      have hFl : F0.length ≤ 4 * k := hsl
      have HPR := Lib.hid hpr
      clear hst hfine hsv hO hp hrr hon hF0 hpr hsl
      go_wp2_with fail
      refine (sides_i p r _ (by have := HPR.out; omega)).mono ?_
      rintro e w1 ⟨S, ms, cs, rfl, hoS, hb1⟩
      have hms : ms = 4 := by have := own_len hoS; rw [vC_length] at this; simp [sidesV] at this; omega
      subst hms
      have HCS := Lib.hid (CRow.of_own hoS)
      have HO1 := Lib.hid (HO.out.below (bel_trans (bel_alloc (Below.refl _ _) _) hb1))
      have hb01 : Below w.heap.size w w1 := (by (repeat (first | with_reducible exact Below.refl _ _ | with_reducible assumption | with_reducible apply bel_alloc | with_reducible apply bel_drew | with_reducible apply bel_drewN | ((with_reducible refine bel_set ?_ ?_); rotate_left; (simp <;> omega)) | (with_reducible refine bel_trans ?_ (by with_reducible assumption)))))
      clear hoS HO
      go_wp2_with fail
      go_loopw [18, 3] (fun e18 e3 wr => ∃ (j q cq : Nat) (D : Option Addr) (hs : List H) (F : List (List C)), j ≤ 4 ∧ e18 = .int .i64 j ∧ e3 = .slice D q cq ∧ F = ((sidesV (p, r)).take j).foldl (extStep xs) F0 ∧ OwnF w.heap.size wr D q cq hs F ∧ FineF F ∧ F.length ≤ 4 * k + j ∧ CRow wr (S, 4, cs) (sidesV (p, r)) ∧ Below w.heap.size w wr) (fun e18 _ _ => 4 - (intOf e18).toNat)
      case atStart => exact ⟨0, q, cq, D, hs, F0, Nat.zero_le _, rfl, rfl, rfl, HO1.out, HFI.out, by omega, HCS.out, hb01⟩
      case round =>
        clear HO1 HCS hb01 hb hb1 d1 d2 hg
        obtain ⟨j, q, cq, D, hs, F, hj, rfl, rfl, hF, hO, hfi, hfl, hcr, hb⟩ := hrel
        by_cases hj4 : j < 4
        · have hjl : j < (sidesV (p, r)).length := hj4
          have hj0 : (0 : Int) ≤ (j : Int) := by omega
          have hj1 : (j : Int) < 4 := by omega
          obtain ⟨g2, o2, hS, hg2, d1, d2⟩ := RdC.at_ hcr.2.1 hjl
          simp only at hS
          have hsm := HSV.out _ (List.getElem_mem hjl)
          have hstep : ((sidesV (p, r)).take (j + 1)).foldl (extStep xs) F0 = extStep xs F (sidesV (p, r))[j] := by
            rw [List.take_succ_eq_append_getElem hjl, List.foldl_append, ← hF]
            rfl
          obtain ⟨x, hx⟩ : ∃ x, (sidesV (p, r))[j].1 = x := ⟨_, rfl⟩
          obtain ⟨y, hy⟩ : ∃ y, (sidesV (p, r))[j].2 = y := ⟨_, rfl⟩
          rw [show (sidesV (p, r))[j] = (x, y) from Prod.ext hx hy] at hsm hstep
          rw [hx] at d1
          rw [hy] at d2
          have hsmall := app_small HSH.out hsm
          have HSM := Lib.hid hsmall
          have HF := Lib.hid hF
          have HO := Lib.hid hO
          have HFI2 := Lib.hid hfi
          have HCR := Lib.hid hcr
          have HQF := Lib.hid hO.flen
          have hq33 : q ≤ 4 * k + j := by rw [← hO.flen]; exact hfl
          have HX := Lib.hid (HR.out.below hb)
          subst hS
          clear hF hO hfi hcr hx hy hsm hsmall
          cases hh : hasC xs x y with
          | true =>
            have HN : Hid (((sidesV (p, r)).take (j + 1)).foldl (extStep xs) F0 = F) := by show _ = F; rw [hstep]; unfold extStep; simp only [hh, if_true]
            have HH := Lib.hid hh
            clear hh hstep
            go_wp2_with fail
            refine (HasCell_i _ n c xs x y _ ((HX.out).alloc _) HL.out hnn).mono ?_
            rw [show hasC xs x y = true from HH.out]
            rintro e w2 ⟨rfl, hb2⟩
            have hb3 := bel_trans (bel_alloc (Below.refl _ _) _) hb2
            go_wp2_with fail
            exact ⟨⟨j + 1, q, cq, D, hs, F, by omega, by go_num, rfl, HN.out.symm, HO.out.below hb3, HFI2.out, by have := HQF.out; omega, HCR.out.below hb3, bel_trans hb hb3⟩, by simp [intOf]; omega⟩
          | false =>
            have HH := Lib.hid hh
            go_wp2_with fail
            refine (HasCell_i _ n c xs x y _ ((HX.out).alloc _) HL.out hnn).mono ?_
            rw [show hasC xs x y = false from HH.out]
            rintro e w2 ⟨rfl, hb2⟩
            have hb3 := bel_trans (bel_alloc (Below.refl _ _) _) hb2
            have hCB := (Blk.new wr 36 #[.int .i64 x, .int .i64 y]).below hb2
            have z0 : w2.cell? ⟨wr.heap.size, 0, none⟩ = some (.int .i64 x) := by simpa using hCB.cell 0
            have z1 : w2.cell? ⟨wr.heap.size, 1, none⟩ = some (.int .i64 y) := by simpa using hCB.cell 1
            have zl := hCB.lt
            clear hCB d1 d2
            go_wp2_with fail
            refine wp_region_rg 7 rfl (by kernel_rfl) ?_
            (refine rgT (i := 0) (v := ?_) rfl rfl (by kernel_rfl) (by kernel_rfl) (by kernel_rfl) (by rfl) (fun w' hcw => ?_) ?_; rotate_left; ((try dsimp only at hcw); have hbc := hcw.cells; go_simp; first | done | with_reducible rfl); simp only [List.setIfInBounds_toArray, List.set_cons_zero, List.set_cons_succ])
            (refine rgT (i := 2) (v := ?_) rfl rfl (by kernel_rfl) (by kernel_rfl) (by kernel_rfl) (by rfl) (fun w' hcw => ?_) ?_; rotate_left; ((try dsimp only at hcw); have hbc := hcw.cells; go_simp; first | done | with_reducible rfl); simp only [List.setIfInBounds_toArray, List.set_cons_zero, List.set_cons_succ])
            refine rgK_two (i := 1) (k := 3) (by kernel_rfl) rfl rfl rfl rfl (fun u1 hc1 he1 K hK => ?_) (fun u1 hc1 he1 K hK => ?_)
            · go_simp
              refine (copyCells_i2 _ n c xs _ ((HX.out).below (bel_trans hb3 hc1)) HL.out hn7).mono ?_
              rintro e u2 ⟨C1, m1, cD, rfl, hod, hbd⟩
              obtain rfl : n = m1 := by have := own_len hod; rw [vC_length] at this; have := HL.out; omega
              have hec : Below w2.heap.size w2 u2 := bel_trans hc1 hbd
              refine hK _ _ hec ?_
              clear hK K
              have HOD := Lib.hid (own_base (base' := w2.heap.size) hod hc1.size)
              clear hod
              refine rgK_one (i := 3) (by kernel_rfl) rfl rfl (fun u3 hc3 he3 K hK => ?_)
              go_simp
              refine hK _ _ (bel_alloc hc3 _) ?_
              clear hK K
              refine rgK_one (i := 4) (by kernel_rfl) rfl rfl (fun u4 hc4 he4 K hK => ?_)
              refine wpC _ _ _ rfl w2.heap.size C1 n cD xs rfl (own_keep (own_keep HOD.out (bel_trans he3 (bel_alloc (Below.refl _ _) _))) he4) _ 1 1 [(x, y)] rfl ((rd_newC u3 _ x y).below he4) rfl (by omega) (hc4.size) ?_
              intro D2 c2 w5 ho5 hg5 _
              have hx5 : Below w2.heap.size w2 w5 := bel_app hc4 hg5 (fun g h => (own_lt HOD.out g h).1)
              refine hK _ _ hx5 ?_
              clear hK K
              simp only [Act.put, List.setIfInBounds_toArray]
              have HO5 := Lib.hid ho5
              clear ho5 hg5
              refine rgK_one (i := 5) (by kernel_rfl) rfl rfl (fun u5 hc5 he5 K hK => ?_)
              go_simp
              refine (corner_i D2 (n + 1) c2 (xs ++ [(x, y)]) _ (Rd.of_own (own_keep HO5.out he5)) (by simp [HL.out]) (by omega) (by omega) HSM.out).mono ?_
              rintro e w6 ⟨E, m, cE, rfl, ho6, hb6⟩
              have hx6 : Below w2.heap.size w2 w6 := bel_trans hc5 hb6
              refine hK _ _ hx6 ?_
              clear hK K
              have HO6 := Lib.hid ho6
              clear ho6
              refine rgK_one (i := 6) (by kernel_rfl) rfl rfl (fun u6 hc6 he6 K hK => ?_)
              go_simp
              refine hK _ _ hc6 ?_
              clear hK K
              refine ⟨by kernel_rfl, fun wz hcz hez => NoPanic.normal ?_⟩
              have HO7 := Lib.hid (own_keep (own_keep HO6.out he6) hez)
              have hbz : Below w2.heap.size w2 wz := hcz
              have hb9 : Below w.heap.size w wz := bel_trans hb (bel_trans hb3 hbz)
              have hb39 : Below wr.heap.size wr wz := bel_trans hb3 hbz
              clear HO6 HO5 HOD hc4 he4 hx5 hc5 he5 hb6 hx6 hc6 he6 hcz hez z0 z1 zl
              have hml : (cornI (xs ++ [(x, y)])).length = m := by have := own_len HO7.out; rw [vC_length] at this; omega
              have hm13 : m ≤ 9 := by have := cornI_len (xs ++ [(x, y)]); rw [hml] at this; simp [HL.out] at this; omega
              have hdef : extStep xs F (x, y) = if isShape (cornI (xs ++ [(x, y)])) then putG ltS F (cornI (xs ++ [(x, y)])) else F := by unfold extStep; simp only [hh, Bool.false_eq_true, if_false]
              rw [hdef] at hstep
              obtain ⟨s2, hs2⟩ : ∃ s2, cornI (xs ++ [(x, y)]) = s2 := ⟨_, rfl⟩
              rw [hs2] at hml hstep HO7
              have HML := Lib.hid hml
              cases hsh : isShape s2 with
              | true =>
                rw [hsh, if_pos rfl] at hstep
                have HSTEP := Lib.hid hstep
                have HS2 := Lib.hid hsh
                clear hstep hsh hml hs2 hdef hh
                go_wp2_with fail
                refine (IsShape_i E m cE s2 _ (Rd.of_own HO7.out) HML.out (by omega)).mono ?_
                rw [HS2.out]
                rintro e w7 ⟨rfl, hb7⟩
                have HOF := Lib.hid (HO.out.below (bel_trans hb39 hb7))
                have HOE := Lib.hid (own_keep HO7.out hb7)
                have HPB : Hid (putB ltS F s2 = putG ltS F s2) := putB_eq ltS_sto HFI2.out.1 s2
                go_wp2_with fail
                refine (putShape_i D q cq hs F E m cE s2 w.heap.size _ HOF.out (CRow.of_own HOE.out) HFI2.out.1 (fun x hx => by have := HFI2.out.len x hx; omega) (by omega) (by omega) (by have := hb9.size; have := hb7.size; omega)).mono ?_
                rw [HPB.out, ← HSTEP.out]
                rintro e w8 ⟨D3, q3, c3, hs3, rfl, hO8, hg8, hD8⟩
                have HO8 := Lib.hid hO8
                have HG8 := Lib.hid hg8
                have hq8 : q3 ≤ 4 * k + (j + 1) := by
                  rw [← hO8.flen, HSTEP.out]
                  have := putG_len (lt := ltS) F s2
                  have := HQF.out
                  omega
                have HFL8 : Hid ((((sidesV (p, r)).take (j + 1)).foldl (extStep xs) F0).length ≤ 4 * k + (j + 1)) := by show _ ≤ _; rw [hO8.flen]; exact hq8
                have HCR8 := Lib.hid (((HCR.out.below hb39).below hb7).grown hg8 (fun g e => ((HCR.out.below hb39).below hb7).apart HOF.out.own g e))
                have HB8 : Hid (Below w.heap.size w w8) := bel_app (bel_trans hb9 hb7) hg8 (fun g e => (own_lt HOF.out.own g e).1)
                have HF8 : Hid (FineF (((sidesV (p, r)).take (j + 1)).foldl (extStep xs) F0)) := by show FineF _; rw [HSTEP.out]; exact HFI2.out.put HS2.out
                clear hO8 hg8 hD8
                go_wp2_with fail
                exact ⟨⟨j + 1, q3, c3, D3, hs3, _, by omega, by go_num, rfl, rfl, HO8.out, HF8.out, HFL8.out, HCR8.out, HB8.out⟩, by simp [intOf]; omega⟩
              | false =>
                rw [hsh] at hstep
                have HSTEP : Hid (((sidesV (p, r)).take (j + 1)).foldl (extStep xs) F0 = F) := by show _ = F; rw [hstep]; rfl
                have HS2 := Lib.hid hsh
                clear hstep hsh hml hs2 hdef hh
                go_wp2_with fail
                refine (IsShape_i E m cE s2 _ (Rd.of_own HO7.out) HML.out (by omega)).mono ?_
                rw [HS2.out]
                rintro e w7 ⟨rfl, hb7⟩
                go_wp2_with fail
                exact ⟨⟨j + 1, q, cq, D, hs, F, by omega, by go_num, rfl, HSTEP.out.symm, HO.out.below (bel_trans hb39 hb7), HFI2.out, by have := HQF.out; omega, HCR.out.below (bel_trans hb39 hb7), bel_trans hb9 hb7⟩, by simp [intOf]; omega⟩
            · go_simp
              refine hK _ _ (bel_alloc hc1 _) ?_
              clear hK K
              refine rgK_one (i := 1) (by kernel_rfl) rfl rfl (fun u3 hc3 he3 K hK => ?_)
              go_simp
              refine (copyCells_i2 _ n c xs _ ((HX.out).below (bel_trans hb3 hc3)) HL.out hn7).mono ?_
              rintro e u2 ⟨C1, m1, cD, rfl, hod, hbd⟩
              obtain rfl : n = m1 := by have := own_len hod; rw [vC_length] at this; have := HL.out; omega
              have hec : Below w2.heap.size w2 u2 := bel_trans hc3 hbd
              refine hK _ _ hec ?_
              clear hK K
              have HOD := Lib.hid (own_base (base' := w2.heap.size) hod hc3.size)
              clear hod
              refine rgK_one (i := 4) (by kernel_rfl) rfl rfl (fun u4 hc4 he4 K hK => ?_)
              refine wpC _ _ _ rfl w2.heap.size C1 n cD xs rfl (own_keep HOD.out he4) _ 1 1 [(x, y)] rfl ((((rd_newC u1 _ x y).below he3).below hbd).below he4) rfl (by omega) (hc4.size) ?_
              intro D2 c2 w5 ho5 hg5 _
              have hx5 : Below w2.heap.size w2 w5 := bel_app hc4 hg5 (fun g h => (own_lt HOD.out g h).1)
              refine hK _ _ hx5 ?_
              clear hK K
              simp only [Act.put, List.setIfInBounds_toArray]
              have HO5 := Lib.hid ho5
              clear ho5 hg5
              refine rgK_one (i := 5) (by kernel_rfl) rfl rfl (fun u5 hc5 he5 K hK => ?_)
              go_simp
              refine (corner_i D2 (n + 1) c2 (xs ++ [(x, y)]) _ (Rd.of_own (own_keep HO5.out he5)) (by simp [HL.out]) (by omega) (by omega) HSM.out).mono ?_
              rintro e w6 ⟨E, m, cE, rfl, ho6, hb6⟩
              have hx6 : Below w2.heap.size w2 w6 := bel_trans hc5 hb6
              refine hK _ _ hx6 ?_
              clear hK K
              have HO6 := Lib.hid ho6
              clear ho6
              refine rgK_one (i := 6) (by kernel_rfl) rfl rfl (fun u6 hc6 he6 K hK => ?_)
              go_simp
              refine hK _ _ hc6 ?_
              clear hK K
              refine ⟨by kernel_rfl, fun wz hcz hez => NoPanic.normal ?_⟩
              have HO7 := Lib.hid (own_keep (own_keep HO6.out he6) hez)
              have hbz : Below w2.heap.size w2 wz := hcz
              have hb9 : Below w.heap.size w wz := bel_trans hb (bel_trans hb3 hbz)
              have hb39 : Below wr.heap.size wr wz := bel_trans hb3 hbz
              clear HO6 HO5 HOD hc4 he4 hx5 hc5 he5 hb6 hx6 hc6 he6 hcz hez z0 z1 zl
              have hml : (cornI (xs ++ [(x, y)])).length = m := by have := own_len HO7.out; rw [vC_length] at this; omega
              have hm13 : m ≤ 9 := by have := cornI_len (xs ++ [(x, y)]); rw [hml] at this; simp [HL.out] at this; omega
              have hdef : extStep xs F (x, y) = if isShape (cornI (xs ++ [(x, y)])) then putG ltS F (cornI (xs ++ [(x, y)])) else F := by unfold extStep; simp only [hh, Bool.false_eq_true, if_false]
              rw [hdef] at hstep
              obtain ⟨s2, hs2⟩ : ∃ s2, cornI (xs ++ [(x, y)]) = s2 := ⟨_, rfl⟩
              rw [hs2] at hml hstep HO7
              have HML := Lib.hid hml
              cases hsh : isShape s2 with
              | true =>
                rw [hsh, if_pos rfl] at hstep
                have HSTEP := Lib.hid hstep
                have HS2 := Lib.hid hsh
                clear hstep hsh hml hs2 hdef hh
                go_wp2_with fail
                refine (IsShape_i E m cE s2 _ (Rd.of_own HO7.out) HML.out (by omega)).mono ?_
                rw [HS2.out]
                rintro e w7 ⟨rfl, hb7⟩
                have HOF := Lib.hid (HO.out.below (bel_trans hb39 hb7))
                have HOE := Lib.hid (own_keep HO7.out hb7)
                have HPB : Hid (putB ltS F s2 = putG ltS F s2) := putB_eq ltS_sto HFI2.out.1 s2
                go_wp2_with fail
                refine (putShape_i D q cq hs F E m cE s2 w.heap.size _ HOF.out (CRow.of_own HOE.out) HFI2.out.1 (fun x hx => by have := HFI2.out.len x hx; omega) (by omega) (by omega) (by have := hb9.size; have := hb7.size; omega)).mono ?_
                rw [HPB.out, ← HSTEP.out]
                rintro e w8 ⟨D3, q3, c3, hs3, rfl, hO8, hg8, hD8⟩
                have HO8 := Lib.hid hO8
                have HG8 := Lib.hid hg8
                have hq8 : q3 ≤ 4 * k + (j + 1) := by
                  rw [← hO8.flen, HSTEP.out]
                  have := putG_len (lt := ltS) F s2
                  have := HQF.out
                  omega
                have HFL8 : Hid ((((sidesV (p, r)).take (j + 1)).foldl (extStep xs) F0).length ≤ 4 * k + (j + 1)) := by show _ ≤ _; rw [hO8.flen]; exact hq8
                have HCR8 := Lib.hid (((HCR.out.below hb39).below hb7).grown hg8 (fun g e => ((HCR.out.below hb39).below hb7).apart HOF.out.own g e))
                have HB8 : Hid (Below w.heap.size w w8) := bel_app (bel_trans hb9 hb7) hg8 (fun g e => (own_lt HOF.out.own g e).1)
                have HF8 : Hid (FineF (((sidesV (p, r)).take (j + 1)).foldl (extStep xs) F0)) := by show FineF _; rw [HSTEP.out]; exact HFI2.out.put HS2.out
                clear hO8 hg8 hD8
                go_wp2_with fail
                exact ⟨⟨j + 1, q3, c3, D3, hs3, _, by omega, by go_num, rfl, rfl, HO8.out, HF8.out, HFL8.out, HCR8.out, HB8.out⟩, by simp [intOf]; omega⟩
              | false =>
                rw [hsh] at hstep
                have HSTEP : Hid (((sidesV (p, r)).take (j + 1)).foldl (extStep xs) F0 = F) := by show _ = F; rw [hstep]; rfl
                have HS2 := Lib.hid hsh
                clear hstep hsh hml hs2 hdef hh
                go_wp2_with fail
                refine (IsShape_i E m cE s2 _ (Rd.of_own HO7.out) HML.out (by omega)).mono ?_
                rw [HS2.out]
                rintro e w7 ⟨rfl, hb7⟩
                go_wp2_with fail
                exact ⟨⟨j + 1, q, cq, D, hs, F, by omega, by go_num, rfl, HSTEP.out.symm, HO.out.below (bel_trans hb39 hb7), HFI2.out, by have := HQF.out; omega, HCR.out.below (bel_trans hb39 hb7), bel_trans hb9 hb7⟩, by simp [intOf]; omega⟩
        · obtain rfl : j = 4 := by omega
          have HN : Hid (extTo sidesV xs (k + 1) = F) := by show _ = F; rw [HST.out, hF]; rfl
          rw [← HN.out] at hO
          have HO := Lib.hid hO
          clear hO hF
          go_wp2_with fail
          exact ⟨⟨k + 1, q, cq, D, hs, by omega, by go_num, rfl, HO.out, hb⟩, by simp [intOf]; omega⟩
    · obtain rfl : k = n := by omega
      rw [← HV.out] at hO
      have HO := Lib.hid hO
      have hk1 : ¬ (k : Int) < (k : Int) := by omega
      clear hO
      go_wp2
      go_ret
      exact ⟨D, q, cq, hs, rfl, HO.out, hb⟩
end Go.Proofs.Yteelmhmdnljjnaa
