/- The shapes with one cell more: the reference. -/
import Derived.Test.YteelmhmdnljjnaaFixM
import Derived.Test.YteelmhmdnljjnaaCornS
import Derived.Test.YteelmhmdnljjnaaSortS
import Derived.Test.YteelmhmdnljjnaaPutS
import Derived.Test.YteelmhmdnljjnaaRgk
import Derived.Test.YteelmhmdnljjnaaWpC
import Derived.Test.YteelmhmdnljjnaaShape
import Derived.Test.YteelmhmdnljjnaaShpS
import Derived.Outline
import Derived.WalkLawsBesides
import Derived.WalkSpells
import Derived.BigQuiet
import Derived.Deep.QuietTactic
import Derived.Deep.RegionHeld3
import Derived.Deep.RegionWith
import Derived.Deep.DeepCutAuto
import Derived.Deep.CutBlock
import Derived.Deep.DrawnRows
namespace Go.Proofs.Yteelmhmdnljjnaa
open Go.RowKit
set_option linter.unusedVariables false
attribute [local go_sem ↓] Go.wp_at_zero Go.wp_at_succ

theorem sidesS_small {c : C} (h : onB c = true) : ∀ d ∈ sidesS c, -1 ≤ d.1 ∧ d.1 ≤ 8 ∧ -1 ≤ d.2 ∧ d.2 ≤ 8 := by
  intro d hd
  exact sidesV_small h d ((sides_same c d).2 hd)
theorem own_lit2 (w : World) {base : Nat} (h : base ≤ w.heap.size) : (w.alloc (.cells #[] 36)).ownsRow base 36 2 (.slice (some ⟨w.heap.size, 0, none⟩) 0 0) 0 (vC []) := own_new w _ 2 0 #[] rfl (by simp [maxLen]) h
/-- The shapes with one cell more, as the reference has them: none for a list that is no shape, or has eight cells. -/
def extR (s : List C) : List (List C) := if isShape s = true ∧ s.length ≠ 8 then extV s else []
def RetFA (w : World) (F : List (List C)) (e : Ending) (w' : World) : Prop :=
  ∃ g n c hs, e = .returned (.slice (some ⟨g, 0, none⟩) n c) ∧ OwnF w.heap.size w' (some ⟨g, 0, none⟩) n c hs F ∧ Below w.heap.size w w'
set_option maxRecDepth 100000 in
set_option maxHeartbeats 6400000 in
theorem ExtensionsOf_s (A : Option Addr) (n c : Nat) (xs : List C) (w : World) (hr : Rd w A (vC xs)) (hl : xs.length = n) (hn : n ≤ 1048576) :
    Calls Try.prog 26 #[.slice A n c] w (RetFA w (extR xs)) := by
  have hini : (w.alloc (.cells #[] 31)).ownsRow w.heap.size 31 1 (.slice (some ⟨w.heap.size, 0, none⟩) 0 0) 0 [] := own_new w _ 1 0 #[] rfl (by simp [maxLen]) (Nat.le_refl _)
  have HI := Lib.hid (OwnF.none_ hini)
  have HL := Lib.hid hl
  have HR := Lib.hid hr
  have hnn : n ≤ 1099511627776 := by omega
  cases hs : isShape xs with
  | false =>
    have HV : Hid (extR xs = []) := by show extR xs = []; unfold extR; rw [hs]; simp
    have HS := Lib.hid hs
    clear hs hl hr hini
    go_enter Try.func26, Try.ntmps26
    go_wp2_with fail
    refine (IsShape_s A n c xs _ (HR.out.alloc _) HL.out hnn).mono ?_
    rw [HS.out]
    rintro e w1 ⟨rfl, hb1⟩
    go_wp2_with fail
    go_ret
    exact ⟨w.heap.size, 0, 0, [], rfl, by rw [HV.out]; exact HI.out.below hb1, bel_trans (bel_alloc (Below.refl _ _) _) hb1⟩
  | true =>
    by_cases h8 : n = 8
    · have HV : Hid (extR xs = []) := by show extR xs = []; unfold extR; rw [if_neg (by rw [hl]; simp [h8])]
      have HS := Lib.hid hs
      have e8 : ((n : Int) == 8) = true := by simp [h8]
      have e8n : n = 8 := h8
      clear hs hl hr hini h8 e8n
      go_enter Try.func26, Try.ntmps26
      go_wp2_with fail
      refine (IsShape_s A n c xs _ (HR.out.alloc _) HL.out hnn).mono ?_
      rw [HS.out]
      rintro e w1 ⟨rfl, hb1⟩
      go_wp2_with fail
      go_ret
      exact ⟨w.heap.size, 0, 0, [], rfl, by rw [HV.out]; exact HI.out.below hb1, bel_trans (bel_alloc (Below.refl _ _) _) hb1⟩
    · have HV : Hid (extR xs = extTo sidesS xs n) := by show extR xs = _; unfold extR; rw [if_pos ⟨hs, by rw [hl]; exact h8⟩, ← hl, ext_same]
      have hn7 : n ≤ 7 := by have := (shape_len hs).2; omega
      have HSH := Lib.hid hs
      have e8 : ((n : Int) == 8) = false := by rw [beq_eq_false_iff_ne]; omega
      have h8n : ¬ n = 8 := h8
      clear hs hl hr hini h8
      go_enter Try.func26, Try.ntmps26
      go_wp2_with fail
      refine (IsShape_s A n c xs _ (HR.out.alloc _) HL.out hnn).mono ?_
      rw [HSH.out]
      rintro e w1 ⟨rfl, hb1⟩
      have HI1 := Lib.hid (HI.out.below hb1)
      have hbw1 : Below w.heap.size w w1 := bel_trans (bel_alloc (Below.refl _ _) _) hb1
      go_wp2_with fail
      go_loopw [4, 3] (fun e4 e3 wr => ∃ (k g q cq : Nat) (hs : List H), k ≤ n ∧ e4 = .int .i64 k ∧ e3 = .slice (some ⟨g, 0, none⟩) q cq ∧ OwnF w.heap.size wr (some ⟨g, 0, none⟩) q cq hs (extTo sidesS xs k) ∧ Below w.heap.size w wr) (fun e4 _ _ => n - (intOf e4).toNat)
      case atStart => exact ⟨0, _, 0, 0, [], Nat.zero_le _, rfl, rfl, HI1.out, hbw1⟩
      case round =>
        clear HI1 hbw1 hb1
        obtain ⟨k, gD, q, cq, hs, hk, rfl, rfl, hO, hb⟩ := hrel
        by_cases hlt : k < n
        · have hkl : k < xs.length := by rw [HL.out]; exact hlt
          have hk0 : (0 : Int) ≤ (k : Int) := by omega
          have hk1 : (k : Int) < (n : Int) := by omega
          have hon := shape_onB HSH.out _ (List.getElem_mem hkl)
          have hst := extTo_succ sidesS xs k hkl
          have hsl := extTo_len sidesS (fun _ => rfl) xs k (by omega)
          obtain ⟨p, hp⟩ : ∃ p, xs[k].1 = p := ⟨_, rfl⟩
          obtain ⟨r, hrr⟩ : ∃ r, xs[k].2 = r := ⟨_, rfl⟩
          rw [show xs[k] = (p, r) from Prod.ext hp hrr] at hon hst
          have hsv := sidesS_small hon
          have hpr : 0 ≤ p ∧ p ≤ 7 ∧ 0 ≤ r ∧ r ≤ 7 := by simp [onB] at hon; omega
          have hfine := extTo_fine sidesS xs k
          obtain ⟨F0, hF0⟩ : ∃ F0, extTo sidesS xs k = F0 := ⟨_, rfl⟩
          rw [hF0] at hst hsl hO hfine
          have HST := Lib.hid hst
          have HFI := Lib.hid hfine
          have HSV := Lib.hid hsv
          have HO := Lib.hid hO
          have HP := Lib.hid hp
          have HRR := Lib.hid hrr
          have HPR := Lib.hid hpr
          clear hst hfine hsv hO hp hrr hon hF0 hpr
          go_wp2_with fail
          go_loopw [5, 3] (fun e5 e3 wr => ∃ (j g q cq : Nat) (hs : List H) (F : List (List C)), j ≤ 4 ∧ e5 = .int .i64 j ∧ e3 = .slice (some ⟨g, 0, none⟩) q cq ∧ F = ((sidesS (p, r)).take j).foldl (extStep xs) F0 ∧ OwnF w.heap.size wr (some ⟨g, 0, none⟩) q cq hs F ∧ FineF F ∧ F.length ≤ 4 * k + j ∧ Below w.heap.size w wr) (fun e5 _ _ => 4 - (intOf e5).toNat)
          case atStart => exact ⟨0, gD, q, cq, hs, F0, Nat.zero_le _, rfl, rfl, rfl, HO.out, HFI.out, by omega, hb⟩
          case round =>
            clear HO hb hsl HFI
            obtain ⟨j, gD, q, cq, hs, F, hj, rfl, rfl, hF, hO, hfi, hfl, hb⟩ := hrel
            by_cases hj4 : j < 4
            · have hjl : j < (sidesS (p, r)).length := hj4
              have hj0 : (0 : Int) ≤ (j : Int) := by omega
              have hj1 : (j : Int) < 4 := by omega
              have hsm := HSV.out _ (List.getElem_mem hjl)
              have hstep : ((sidesS (p, r)).take (j + 1)).foldl (extStep xs) F0 = extStep xs F (sidesS (p, r))[j] := by
                rw [List.take_succ_eq_append_getElem hjl, List.foldl_append, ← hF]
                rfl
              obtain ⟨da, db, e1, e2, hd1, hd2, hab⟩ : ∃ da db : Int, ((1 : Int) - (j : Int)).tmod 2 = da ∧ ((2 : Int) - (j : Int)).tmod 2 = db ∧ (-1 ≤ da ∧ da ≤ 1) ∧ (-1 ≤ db ∧ db ≤ 1) ∧ (sidesS (p, r))[j] = (p + da, r + db) := by
                rcases (by omega : j = 0 ∨ j = 1 ∨ j = 2 ∨ j = 3) with rfl | rfl | rfl | rfl
                · exact ⟨1, 0, by decide, by decide, by omega, by omega, by simp [sidesS]⟩
                · exact ⟨0, 1, by decide, by decide, by omega, by omega, by simp [sidesS]⟩
                · exact ⟨-1, 0, by decide, by decide, by omega, by omega, by simp [sidesS]; omega⟩
                · exact ⟨0, -1, by decide, by decide, by omega, by omega, by simp [sidesS]; omega⟩
              have hpr := HPR.out
              obtain ⟨x, hx⟩ : ∃ x, p + da = x := ⟨_, rfl⟩
              obtain ⟨y, hy⟩ : ∃ y, r + db = y := ⟨_, rfl⟩
              rw [hab, hx, hy] at hsm hstep
              have v1 : IntKind.i64.wrap ((1 : Int) - (j : Int)) = (1 : Int) - (j : Int) := Go.IntWalk.i64_in _ (by omega)
              have v2 : IntKind.i64.wrap ((2 : Int) - (j : Int)) = (2 : Int) - (j : Int) := Go.IntWalk.i64_in _ (by omega)
              have v3 : IntKind.i64.wrap x = x := Go.IntWalk.i64_in _ (by omega)
              have v4 : IntKind.i64.wrap y = y := Go.IntWalk.i64_in _ (by omega)
              have v5 : IntKind.i64.wrap da = da := Go.IntWalk.i64_in _ (by omega)
              have v6 : IntKind.i64.wrap db = db := Go.IntWalk.i64_in _ (by omega)
              have hsmall := app_small HSH.out hsm
              have HSM := Lib.hid hsmall
              have HF := Lib.hid hF
              have HQF := Lib.hid hO.flen
              have hq33 : q ≤ 4 * k + j := by rw [← hO.flen]; exact hfl
              have HO := Lib.hid hO
              have HFI2 := Lib.hid hfi
              have HX := Lib.hid (HR.out.below hb)
              obtain ⟨g, off, hA, hg, d1, d2⟩ := RdC.at_ (HR.out.below hb) hkl
              subst hA
              rw [HP.out] at d1
              rw [HRR.out] at d2
              clear hF hO hfi hsm hsmall hab hd1 hd2 hpr
              go_wp2_with fail
              (refine wp_region_tailN (C := ExC wr) 19 (by kernel_rfl) (by kernel_rfl) (ExC.drawn _) (fun _ _ h k => ExC.ext h k) ?_; simp only [List.take_succ_cons, List.take_zero, List.drop_succ_cons, List.drop_zero]; (repeat (first | (refine headSkip (by rfl) rfl ?_; simp only [List.setIfInBounds_toArray, List.set_cons_zero, List.set_cons_succ]) | (refine headV (v := ?_) (by rfl) rfl (fun w' hcw => ?_) ?_; rotate_left; ((try dsimp only at hcw); have hbc := hcw.cells; go_simp; first | done | with_reducible rfl | fail); simp only [List.setIfInBounds_toArray, List.set_cons_zero, List.set_cons_succ]))); unfold wpHead)
              (refine tailK (by rfl) (fun b3 hc3 he3 K hK => ?_); go_simp; refine hK _ _ (hc3.ext (bel_alloc (Below.refl _ _) _)) ?_; clear hK K)
              have k3 := Blk.new b3 36 #[.int .i64 0, .int .i64 0]
              have hz3 := he3.size
              refine tailK (by rfl) (fun b4 hc4 he4 K hK => ?_)
              have k4 := k3.below he4
              have q1 : b4.cell? ⟨b3.heap.size, 0, none⟩ = some (.int .i64 0) := by simpa using k4.cell 0
              have q2 : b4.cell? ⟨b3.heap.size, 1, none⟩ = some (.int .i64 0) := by simpa using k4.cell 1
              have f1 := k4.frozen 0
              have f2 := k4.frozen 1
              go_simp
              refine hK _ _ (bel_set (bel_set hc4 (by simp; omega)) (by simp; omega)) ?_
              clear hK K
              (refine fun b5 hc5 he5 => NoPanic.normal ?_)
              have hK5 := ((k4.set_ 0 (.int .i64 x)).set_ 1 (.int .i64 y)).below he5
              have m0 : b5.cell? ⟨b3.heap.size, 0, none⟩ = some (.int .i64 x) := by simpa using hK5.cell 0
              have m1 : b5.cell? ⟨b3.heap.size, 1, none⟩ = some (.int .i64 y) := by simpa using hK5.cell 1
              have ml := hK5.lt
              have HK5 := Lib.hid hK5
              have hbr5 : Below wr.heap.size wr b5 := hc5
              clear k3 k4 hc3 he3 hc4 he4 q1 q2 f1 f2 hc5 he5 hK5 d1 d2
              cases hh : hasC xs x y with
              | true =>
                have HN : Hid (((sidesS (p, r)).take (j + 1)).foldl (extStep xs) F0 = F) := by show _ = F; rw [hstep]; unfold extStep; simp only [hh, if_true]
                have HH := Lib.hid hh
                clear hh hstep
                go_wp2_with fail
                refine (HasCell_s _ n c xs x y _ (HX.out.below hbr5) HL.out hnn).mono ?_
                rw [show hasC xs x y = true from HH.out]
                rintro e w2 ⟨rfl, hb2⟩
                have hb3 := bel_trans hbr5 hb2
                go_wp2_with fail
                exact ⟨⟨j + 1, gD, q, cq, hs, F, by omega, by go_num, rfl, HN.out.symm, HO.out.below hb3, HFI2.out, by have := HQF.out; omega, bel_trans hb hb3⟩, by simp [intOf]; omega⟩
              | false =>
                have HH := Lib.hid hh
                go_wp2_with fail
                refine (HasCell_s _ n c xs x y _ (HX.out.below hbr5) HL.out hnn).mono ?_
                rw [show hasC xs x y = false from HH.out]
                rintro e w2 ⟨rfl, hb2⟩
                have hb2r : Below wr.heap.size wr w2 := bel_trans hbr5 hb2
                have hCB := HK5.out.below hb2
                have z0 : w2.cell? ⟨b3.heap.size, 0, none⟩ = some (.int .i64 x) := by simpa using hCB.cell 0
                have z1 : w2.cell? ⟨b3.heap.size, 1, none⟩ = some (.int .i64 y) := by simpa using hCB.cell 1
                have zl := hCB.lt
                clear hCB m0 m1 ml
                go_wp2_with fail
                refine wp_region_rg 9 rfl (by kernel_rfl) ?_
                (refine rgT (i := 1) (v := ?_) rfl rfl (by kernel_rfl) (by kernel_rfl) (by kernel_rfl) (by rfl) (fun w' hcw => ?_) ?_; rotate_left; ((try dsimp only at hcw); have hbc := hcw.cells; go_simp; first | done | with_reducible rfl); simp only [List.setIfInBounds_toArray, List.set_cons_zero, List.set_cons_succ])
                (refine rgT (i := 3) (v := ?_) rfl rfl (by kernel_rfl) (by kernel_rfl) (by kernel_rfl) (by rfl) (fun w' hcw => ?_) ?_; rotate_left; ((try dsimp only at hcw); have hbc := hcw.cells; go_simp; first | done | with_reducible rfl); simp only [List.setIfInBounds_toArray, List.set_cons_zero, List.set_cons_succ])
                refine rgK_two (i := 0) (k := 4) (by kernel_rfl) rfl rfl rfl rfl (fun u0 hc0 he0 K hK => ?_) (fun u4 hc4 he4 K hK => ?_)
                · go_simp
                  refine hK _ _ (bel_alloc hc0 _) ?_
                  clear hK K
                  refine rgK_two (i := 2) (k := 4) (by kernel_rfl) rfl rfl rfl rfl (fun u2 hc2 he2 K hK => ?_) (fun u4 hc4 he4 K hK => ?_)
                  · refine wpC _ _ _ rfl w2.heap.size (some ⟨u0.heap.size, 0, none⟩) 0 0 [] rfl (own_keep (own_lit2 u0 hc0.size) he2) (some ⟨g, off, none⟩) n c xs rfl (HX.out.below (bel_trans hb2r hc2)) HL.out (by omega) (hc2.size) ?_
                    intro DD cD w3 ho3 hg3 hat3
                    have hx3 : Below w2.heap.size w2 w3 := bel_app hc2 hg3 (fun g h => by simp only [ob, Option.map_some, Option.some.injEq] at h; subst h; exact hc0.size)
                    refine hK _ _ hx3 ?_
                    clear hK K
                    simp only [Act.put, List.setIfInBounds_toArray, Nat.zero_add]
                    simp only [Nat.zero_add, List.nil_append] at ho3
                    have HOD := Lib.hid ho3
                    have HDL : Hid (∀ g, ob DD = some g → w2.heap.size ≤ g) := fun g e => (own_lt HOD.out g e).1
                    have hgu0 := hc0.size
                    clear ho3
                    refine rgK_one (i := 4) (by kernel_rfl) rfl rfl (fun u4 hc4 he4 K hK => ?_)
                    go_simp
                    refine hK _ _ (bel_alloc hc4 _) ?_
                    clear hK K
                    refine rgK_one (i := 5) (by kernel_rfl) rfl rfl (fun u5 hc5 he5 K hK => ?_)
                    refine wpC _ _ _ rfl w2.heap.size DD n cD xs rfl (own_keep (own_keep HOD.out (bel_trans he4 (bel_alloc (Below.refl _ _) _))) he5) _ 1 1 [(x, y)] rfl ((rd_newC u4 _ x y).below he5) rfl (by omega) (hc5.size) ?_
                    intro D2 c2 w5 ho5 hg5 _
                    have hx5 : Below w2.heap.size w2 w5 := bel_app hc5 hg5 (fun g h => HDL.out g h)
                    refine hK _ _ hx5 ?_
                    clear hK K
                    simp only [Act.put, List.setIfInBounds_toArray]
                    have HO5 := Lib.hid ho5
                    clear ho5 hg5
                    refine rgK_one (i := 6) (by kernel_rfl) rfl rfl (fun u6 hc6 he6 K hK => ?_)
                    go_simp
                    refine (SortCells_s D2 (n + 1) c2 (xs ++ [(x, y)]) _ (Rd.of_own (own_keep HO5.out he6)) (by simp [HL.out]) (by omega)).mono ?_
                    rintro e w6 ⟨E, m, cE, rfl, ho6, hb6⟩
                    have hx6 : Below w2.heap.size w2 w6 := bel_trans hc6 hb6
                    refine hK _ _ hx6 ?_
                    clear hK K
                    have hml : (sortC (xs ++ [(x, y)])).length = m := by have := own_len ho6; rw [vC_length] at this; omega
                    have hm9 : m ≤ 8 := by have := sortC_len (xs ++ [(x, y)]); rw [hml] at this; simp [HL.out] at this; omega
                    have HML6 := Lib.hid hml
                    have HO6 := Lib.hid ho6
                    clear ho6 hml
                    refine rgK_one (i := 7) (by kernel_rfl) rfl rfl (fun u7 hc7 he7 K hK => ?_)
                    go_simp
                    refine (l2Corner_s E m cE (sortC (xs ++ [(x, y)])) _ (Rd.of_own (own_keep HO6.out he7)) HML6.out (by omega) (fun d hd => HSM.out d ((sortC_mem _ _).1 hd))).mono ?_
                    rw [← corn_eq (s := xs ++ [(x, y)]) (by simp)]
                    rintro e w7 ⟨E2, m2, cE2, rfl, ho7, hb7⟩
                    have hx7 : Below w2.heap.size w2 w7 := bel_trans hc7 hb7
                    refine hK _ _ hx7 ?_
                    clear hK K
                    have HO7 := Lib.hid ho7
                    clear ho7
                    refine rgK_one (i := 8) (by kernel_rfl) rfl rfl (fun u8 hc8 he8 K hK => ?_)
                    go_simp
                    refine hK _ _ hc8 ?_
                    clear hK K
                    refine ⟨by kernel_rfl, fun wz hcz hez => NoPanic.normal ?_⟩
                    have HO9 := Lib.hid (own_keep (own_keep HO7.out he8) hez)
                    have hbz : Below w2.heap.size w2 wz := hcz
                    have hb39 : Below wr.heap.size wr wz := bel_trans hb2r hbz
                    have hb9 : Below w.heap.size w wz := bel_trans hb hb39
                    clear HO6 HO5 HO7 HML6 hx5 hc5 he5 hb6 hx6 hc6 he6 hc7 he7 hb7 hx7 hc8 he8 hcz hez
                    have hml : (cornI (xs ++ [(x, y)])).length = m2 := by have := own_len HO9.out; rw [vC_length] at this; omega
                    have hm13 : m2 ≤ 9 := by have := cornI_len (xs ++ [(x, y)]); rw [hml] at this; simp [HL.out] at this; omega
                    have hdef : extStep xs F (x, y) = if isShape (cornI (xs ++ [(x, y)])) then putG ltS F (cornI (xs ++ [(x, y)])) else F := by unfold extStep; simp only [hh, Bool.false_eq_true, if_false]
                    rw [hdef] at hstep
                    obtain ⟨s2, hs2⟩ : ∃ s2, cornI (xs ++ [(x, y)]) = s2 := ⟨_, rfl⟩
                    rw [hs2] at hml hstep HO9
                    have HML := Lib.hid hml
                    cases hsh : isShape s2 with
                    | true =>
                      rw [hsh, if_pos rfl] at hstep
                      have HSTEP := Lib.hid hstep
                      have HS2 := Lib.hid hsh
                      clear hstep hsh hml hs2 hdef hh
                      go_wp2_with fail
                      refine (IsShape_s E2 m2 cE2 s2 _ (Rd.of_own HO9.out) HML.out (by omega)).mono ?_
                      rw [HS2.out]
                      rintro e w8 ⟨rfl, hb8⟩
                      have HOF := Lib.hid (HO.out.below (bel_trans hb39 hb8))
                      have HOE := Lib.hid (own_keep HO9.out hb8)
                      go_wp2_with fail
                      refine (l3Put_s gD q cq hs F E2 m2 cE2 s2 w.heap.size _ HOF.out (CRow.of_own HOE.out) (fun x hx => by have := HFI2.out.len x hx; omega) (by omega) (by omega) (by have := hb9.size; have := hb8.size; omega)).mono ?_
                      rw [← HSTEP.out]
                      rintro e w9 ⟨gE, q3, c3, hs3, rfl, hO8, hb10⟩
                      have HO8 := Lib.hid hO8
                      have HFL8 : Hid ((((sidesS (p, r)).take (j + 1)).foldl (extStep xs) F0).length ≤ 4 * k + (j + 1)) := by
                        show _ ≤ _
                        rw [HSTEP.out]
                        have := putG_len (lt := ltS) F s2
                        have := HQF.out
                        omega
                      have HF8 : Hid (FineF (((sidesS (p, r)).take (j + 1)).foldl (extStep xs) F0)) := by show FineF _; rw [HSTEP.out]; exact HFI2.out.put HS2.out
                      clear hO8
                      go_wp2_with fail
                      exact ⟨⟨j + 1, gE, q3, c3, hs3, _, by omega, by go_num, rfl, rfl, HO8.out, HF8.out, HFL8.out, bel_trans hb9 (bel_trans hb8 hb10)⟩, by simp [intOf]; omega⟩
                    | false =>
                      rw [hsh] at hstep
                      have HSTEP : Hid (((sidesS (p, r)).take (j + 1)).foldl (extStep xs) F0 = F) := by show _ = F; rw [hstep]; rfl
                      have HS2 := Lib.hid hsh
                      clear hstep hsh hml hs2 hdef hh
                      go_wp2_with fail
                      refine (IsShape_s E2 m2 cE2 s2 _ (Rd.of_own HO9.out) HML.out (by omega)).mono ?_
                      rw [HS2.out]
                      rintro e w8 ⟨rfl, hb8⟩
                      go_wp2_with fail
                      exact ⟨⟨j + 1, gD, q, cq, hs, F, by omega, by go_num, rfl, HSTEP.out.symm, HO.out.below (bel_trans hb39 hb8), HFI2.out, by have := HQF.out; omega, bel_trans hb9 hb8⟩, by simp [intOf]; omega⟩
                  · go_simp
                    refine hK _ _ (bel_alloc hc4 _) ?_
                    clear hK K
                    refine rgK_one (i := 2) (by kernel_rfl) rfl rfl (fun u2 hc2 he2 K hK => ?_)
                    refine wpC _ _ _ rfl w2.heap.size (some ⟨u0.heap.size, 0, none⟩) 0 0 [] rfl (own_keep ((own_keep (own_lit2 u0 hc0.size) he4).alloc _) he2) (some ⟨g, off, none⟩) n c xs rfl (HX.out.below (bel_trans hb2r hc2)) HL.out (by omega) (hc2.size) ?_
                    intro DD cD w3 ho3 hg3 hat3
                    have hx3 : Below w2.heap.size w2 w3 := bel_app hc2 hg3 (fun g h => by simp only [ob, Option.map_some, Option.some.injEq] at h; subst h; exact hc0.size)
                    refine hK _ _ hx3 ?_
                    clear hK K
                    simp only [Act.put, List.setIfInBounds_toArray, Nat.zero_add]
                    simp only [Nat.zero_add, List.nil_append] at ho3
                    have HOD := Lib.hid ho3
                    have HDL : Hid (∀ g, ob DD = some g → w2.heap.size ≤ g) := fun g e => (own_lt HOD.out g e).1
                    have hgu0 := hc0.size
                    clear ho3
                    have hz4 := he4.size
                    simp only [World.size_alloc] at hz4
                    refine rgK_one (i := 5) (by kernel_rfl) rfl rfl (fun u5 hc5 he5 K hK => ?_)
                    refine wpC _ _ _ rfl w2.heap.size DD n cD xs rfl (own_keep HOD.out he5) _ 1 1 [(x, y)] rfl ((((rd_newC u4 _ x y).below he2).grown hg3 (fun g e r => by simp only [ob, Option.map_some, Option.some.injEq] at e r; omega)).below he5) rfl (by omega) (hc5.size) ?_
                    intro D2 c2 w5 ho5 hg5 _
                    have hx5 : Below w2.heap.size w2 w5 := bel_app hc5 hg5 (fun g h => HDL.out g h)
                    refine hK _ _ hx5 ?_
                    clear hK K
                    simp only [Act.put]
                    have HO5 := Lib.hid ho5
                    clear ho5 hg5
                    refine rgK_one (i := 6) (by kernel_rfl) rfl rfl (fun u6 hc6 he6 K hK => ?_)
                    go_simp
                    refine (SortCells_s D2 (n + 1) c2 (xs ++ [(x, y)]) _ (Rd.of_own (own_keep HO5.out he6)) (by simp [HL.out]) (by omega)).mono ?_
                    rintro e w6 ⟨E, m, cE, rfl, ho6, hb6⟩
                    have hx6 : Below w2.heap.size w2 w6 := bel_trans hc6 hb6
                    refine hK _ _ hx6 ?_
                    clear hK K
                    have hml : (sortC (xs ++ [(x, y)])).length = m := by have := own_len ho6; rw [vC_length] at this; omega
                    have hm9 : m ≤ 8 := by have := sortC_len (xs ++ [(x, y)]); rw [hml] at this; simp [HL.out] at this; omega
                    have HML6 := Lib.hid hml
                    have HO6 := Lib.hid ho6
                    clear ho6 hml
                    refine rgK_one (i := 7) (by kernel_rfl) rfl rfl (fun u7 hc7 he7 K hK => ?_)
                    go_simp
                    refine (l2Corner_s E m cE (sortC (xs ++ [(x, y)])) _ (Rd.of_own (own_keep HO6.out he7)) HML6.out (by omega) (fun d hd => HSM.out d ((sortC_mem _ _).1 hd))).mono ?_
                    rw [← corn_eq (s := xs ++ [(x, y)]) (by simp)]
                    rintro e w7 ⟨E2, m2, cE2, rfl, ho7, hb7⟩
                    have hx7 : Below w2.heap.size w2 w7 := bel_trans hc7 hb7
                    refine hK _ _ hx7 ?_
                    clear hK K
                    have HO7 := Lib.hid ho7
                    clear ho7
                    refine rgK_one (i := 8) (by kernel_rfl) rfl rfl (fun u8 hc8 he8 K hK => ?_)
                    go_simp
                    refine hK _ _ hc8 ?_
                    clear hK K
                    refine ⟨by kernel_rfl, fun wz hcz hez => NoPanic.normal ?_⟩
                    have HO9 := Lib.hid (own_keep (own_keep HO7.out he8) hez)
                    have hbz : Below w2.heap.size w2 wz := hcz
                    have hb39 : Below wr.heap.size wr wz := bel_trans hb2r hbz
                    have hb9 : Below w.heap.size w wz := bel_trans hb hb39
                    clear HO6 HO5 HO7 HML6 hx5 hc5 he5 hb6 hx6 hc6 he6 hc7 he7 hb7 hx7 hc8 he8 hcz hez
                    have hml : (cornI (xs ++ [(x, y)])).length = m2 := by have := own_len HO9.out; rw [vC_length] at this; omega
                    have hm13 : m2 ≤ 9 := by have := cornI_len (xs ++ [(x, y)]); rw [hml] at this; simp [HL.out] at this; omega
                    have hdef : extStep xs F (x, y) = if isShape (cornI (xs ++ [(x, y)])) then putG ltS F (cornI (xs ++ [(x, y)])) else F := by unfold extStep; simp only [hh, Bool.false_eq_true, if_false]
                    rw [hdef] at hstep
                    obtain ⟨s2, hs2⟩ : ∃ s2, cornI (xs ++ [(x, y)]) = s2 := ⟨_, rfl⟩
                    rw [hs2] at hml hstep HO9
                    have HML := Lib.hid hml
                    cases hsh : isShape s2 with
                    | true =>
                      rw [hsh, if_pos rfl] at hstep
                      have HSTEP := Lib.hid hstep
                      have HS2 := Lib.hid hsh
                      clear hstep hsh hml hs2 hdef hh
                      go_wp2_with fail
                      refine (IsShape_s E2 m2 cE2 s2 _ (Rd.of_own HO9.out) HML.out (by omega)).mono ?_
                      rw [HS2.out]
                      rintro e w8 ⟨rfl, hb8⟩
                      have HOF := Lib.hid (HO.out.below (bel_trans hb39 hb8))
                      have HOE := Lib.hid (own_keep HO9.out hb8)
                      go_wp2_with fail
                      refine (l3Put_s gD q cq hs F E2 m2 cE2 s2 w.heap.size _ HOF.out (CRow.of_own HOE.out) (fun x hx => by have := HFI2.out.len x hx; omega) (by omega) (by omega) (by have := hb9.size; have := hb8.size; omega)).mono ?_
                      rw [← HSTEP.out]
                      rintro e w9 ⟨gE, q3, c3, hs3, rfl, hO8, hb10⟩
                      have HO8 := Lib.hid hO8
                      have HFL8 : Hid ((((sidesS (p, r)).take (j + 1)).foldl (extStep xs) F0).length ≤ 4 * k + (j + 1)) := by
                        show _ ≤ _
                        rw [HSTEP.out]
                        have := putG_len (lt := ltS) F s2
                        have := HQF.out
                        omega
                      have HF8 : Hid (FineF (((sidesS (p, r)).take (j + 1)).foldl (extStep xs) F0)) := by show FineF _; rw [HSTEP.out]; exact HFI2.out.put HS2.out
                      clear hO8
                      go_wp2_with fail
                      exact ⟨⟨j + 1, gE, q3, c3, hs3, _, by omega, by go_num, rfl, rfl, HO8.out, HF8.out, HFL8.out, bel_trans hb9 (bel_trans hb8 hb10)⟩, by simp [intOf]; omega⟩
                    | false =>
                      rw [hsh] at hstep
                      have HSTEP : Hid (((sidesS (p, r)).take (j + 1)).foldl (extStep xs) F0 = F) := by show _ = F; rw [hstep]; rfl
                      have HS2 := Lib.hid hsh
                      clear hstep hsh hml hs2 hdef hh
                      go_wp2_with fail
                      refine (IsShape_s E2 m2 cE2 s2 _ (Rd.of_own HO9.out) HML.out (by omega)).mono ?_
                      rw [HS2.out]
                      rintro e w8 ⟨rfl, hb8⟩
                      go_wp2_with fail
                      exact ⟨⟨j + 1, gD, q, cq, hs, F, by omega, by go_num, rfl, HSTEP.out.symm, HO.out.below (bel_trans hb39 hb8), HFI2.out, by have := HQF.out; omega, bel_trans hb9 hb8⟩, by simp [intOf]; omega⟩
                · go_simp
                  refine hK _ _ (bel_alloc hc4 _) ?_
                  clear hK K
                  refine rgK_one (i := 0) (by kernel_rfl) rfl rfl (fun u0 hc0 he0 K hK => ?_)
                  go_simp
                  refine hK _ _ (bel_alloc hc0 _) ?_
                  clear hK K
                  refine rgK_one (i := 2) (by kernel_rfl) rfl rfl (fun u2 hc2 he2 K hK => ?_)
                  refine wpC _ _ _ rfl w2.heap.size (some ⟨u0.heap.size, 0, none⟩) 0 0 [] rfl (own_keep (own_lit2 u0 hc0.size) he2) (some ⟨g, off, none⟩) n c xs rfl (HX.out.below (bel_trans hb2r hc2)) HL.out (by omega) (hc2.size) ?_
                  intro DD cD w3 ho3 hg3 hat3
                  have hx3 : Below w2.heap.size w2 w3 := bel_app hc2 hg3 (fun g h => by simp only [ob, Option.map_some, Option.some.injEq] at h; subst h; exact hc0.size)
                  refine hK _ _ hx3 ?_
                  clear hK K
                  simp only [Act.put, List.setIfInBounds_toArray, Nat.zero_add]
                  simp only [Nat.zero_add, List.nil_append] at ho3
                  have HOD := Lib.hid ho3
                  have HDL : Hid (∀ g, ob DD = some g → w2.heap.size ≤ g) := fun g e => (own_lt HOD.out g e).1
                  have hgu0 := hc0.size
                  clear ho3
                  have hz0 := he0.size
                  simp only [World.size_alloc] at hz0
                  refine rgK_one (i := 5) (by kernel_rfl) rfl rfl (fun u5 hc5 he5 K hK => ?_)
                  refine wpC _ _ _ rfl w2.heap.size DD n cD xs rfl (own_keep HOD.out he5) _ 1 1 [(x, y)] rfl ((((((rd_newC u4 _ x y).below he0).alloc _).below he2).grown hg3 (fun g e r => by simp only [ob, Option.map_some, Option.some.injEq] at e r; omega)).below he5) rfl (by omega) (hc5.size) ?_
                  intro D2 c2 w5 ho5 hg5 _
                  have hx5 : Below w2.heap.size w2 w5 := bel_app hc5 hg5 (fun g h => HDL.out g h)
                  refine hK _ _ hx5 ?_
                  clear hK K
                  simp only [Act.put]
                  have HO5 := Lib.hid ho5
                  clear ho5 hg5
                  refine rgK_one (i := 6) (by kernel_rfl) rfl rfl (fun u6 hc6 he6 K hK => ?_)
                  go_simp
                  refine (SortCells_s D2 (n + 1) c2 (xs ++ [(x, y)]) _ (Rd.of_own (own_keep HO5.out he6)) (by simp [HL.out]) (by omega)).mono ?_
                  rintro e w6 ⟨E, m, cE, rfl, ho6, hb6⟩
                  have hx6 : Below w2.heap.size w2 w6 := bel_trans hc6 hb6
                  refine hK _ _ hx6 ?_
                  clear hK K
                  have hml : (sortC (xs ++ [(x, y)])).length = m := by have := own_len ho6; rw [vC_length] at this; omega
                  have hm9 : m ≤ 8 := by have := sortC_len (xs ++ [(x, y)]); rw [hml] at this; simp [HL.out] at this; omega
                  have HML6 := Lib.hid hml
                  have HO6 := Lib.hid ho6
                  clear ho6 hml
                  refine rgK_one (i := 7) (by kernel_rfl) rfl rfl (fun u7 hc7 he7 K hK => ?_)
                  go_simp
                  refine (l2Corner_s E m cE (sortC (xs ++ [(x, y)])) _ (Rd.of_own (own_keep HO6.out he7)) HML6.out (by omega) (fun d hd => HSM.out d ((sortC_mem _ _).1 hd))).mono ?_
                  rw [← corn_eq (s := xs ++ [(x, y)]) (by simp)]
                  rintro e w7 ⟨E2, m2, cE2, rfl, ho7, hb7⟩
                  have hx7 : Below w2.heap.size w2 w7 := bel_trans hc7 hb7
                  refine hK _ _ hx7 ?_
                  clear hK K
                  have HO7 := Lib.hid ho7
                  clear ho7
                  refine rgK_one (i := 8) (by kernel_rfl) rfl rfl (fun u8 hc8 he8 K hK => ?_)
                  go_simp
                  refine hK _ _ hc8 ?_
                  clear hK K
                  refine ⟨by kernel_rfl, fun wz hcz hez => NoPanic.normal ?_⟩
                  have HO9 := Lib.hid (own_keep (own_keep HO7.out he8) hez)
                  have hbz : Below w2.heap.size w2 wz := hcz
                  have hb39 : Below wr.heap.size wr wz := bel_trans hb2r hbz
                  have hb9 : Below w.heap.size w wz := bel_trans hb hb39
                  clear HO6 HO5 HO7 HML6 hx5 hc5 he5 hb6 hx6 hc6 he6 hc7 he7 hb7 hx7 hc8 he8 hcz hez
                  have hml : (cornI (xs ++ [(x, y)])).length = m2 := by have := own_len HO9.out; rw [vC_length] at this; omega
                  have hm13 : m2 ≤ 9 := by have := cornI_len (xs ++ [(x, y)]); rw [hml] at this; simp [HL.out] at this; omega
                  have hdef : extStep xs F (x, y) = if isShape (cornI (xs ++ [(x, y)])) then putG ltS F (cornI (xs ++ [(x, y)])) else F := by unfold extStep; simp only [hh, Bool.false_eq_true, if_false]
                  rw [hdef] at hstep
                  obtain ⟨s2, hs2⟩ : ∃ s2, cornI (xs ++ [(x, y)]) = s2 := ⟨_, rfl⟩
                  rw [hs2] at hml hstep HO9
                  have HML := Lib.hid hml
                  cases hsh : isShape s2 with
                  | true =>
                    rw [hsh, if_pos rfl] at hstep
                    have HSTEP := Lib.hid hstep
                    have HS2 := Lib.hid hsh
                    clear hstep hsh hml hs2 hdef hh
                    go_wp2_with fail
                    refine (IsShape_s E2 m2 cE2 s2 _ (Rd.of_own HO9.out) HML.out (by omega)).mono ?_
                    rw [HS2.out]
                    rintro e w8 ⟨rfl, hb8⟩
                    have HOF := Lib.hid (HO.out.below (bel_trans hb39 hb8))
                    have HOE := Lib.hid (own_keep HO9.out hb8)
                    go_wp2_with fail
                    refine (l3Put_s gD q cq hs F E2 m2 cE2 s2 w.heap.size _ HOF.out (CRow.of_own HOE.out) (fun x hx => by have := HFI2.out.len x hx; omega) (by omega) (by omega) (by have := hb9.size; have := hb8.size; omega)).mono ?_
                    rw [← HSTEP.out]
                    rintro e w9 ⟨gE, q3, c3, hs3, rfl, hO8, hb10⟩
                    have HO8 := Lib.hid hO8
                    have HFL8 : Hid ((((sidesS (p, r)).take (j + 1)).foldl (extStep xs) F0).length ≤ 4 * k + (j + 1)) := by
                      show _ ≤ _
                      rw [HSTEP.out]
                      have := putG_len (lt := ltS) F s2
                      have := HQF.out
                      omega
                    have HF8 : Hid (FineF (((sidesS (p, r)).take (j + 1)).foldl (extStep xs) F0)) := by show FineF _; rw [HSTEP.out]; exact HFI2.out.put HS2.out
                    clear hO8
                    go_wp2_with fail
                    exact ⟨⟨j + 1, gE, q3, c3, hs3, _, by omega, by go_num, rfl, rfl, HO8.out, HF8.out, HFL8.out, bel_trans hb9 (bel_trans hb8 hb10)⟩, by simp [intOf]; omega⟩
                  | false =>
                    rw [hsh] at hstep
                    have HSTEP : Hid (((sidesS (p, r)).take (j + 1)).foldl (extStep xs) F0 = F) := by show _ = F; rw [hstep]; rfl
                    have HS2 := Lib.hid hsh
                    clear hstep hsh hml hs2 hdef hh
                    go_wp2_with fail
                    refine (IsShape_s E2 m2 cE2 s2 _ (Rd.of_own HO9.out) HML.out (by omega)).mono ?_
                    rw [HS2.out]
                    rintro e w8 ⟨rfl, hb8⟩
                    go_wp2_with fail
                    exact ⟨⟨j + 1, gD, q, cq, hs, F, by omega, by go_num, rfl, HSTEP.out.symm, HO.out.below (bel_trans hb39 hb8), HFI2.out, by have := HQF.out; omega, bel_trans hb9 hb8⟩, by simp [intOf]; omega⟩
            · obtain rfl : j = 4 := by omega
              have HN : Hid (extTo sidesS xs (k + 1) = F) := by show _ = F; rw [HST.out, hF]; rfl
              rw [← HN.out] at hO
              have HO := Lib.hid hO
              clear hO hF
              go_wp2_with fail
              exact ⟨⟨k + 1, gD, q, cq, hs, by omega, by go_num, rfl, HO.out, hb⟩, by simp [intOf]; omega⟩
        · obtain rfl : k = n := by omega
          rw [← HV.out] at hO
          have HO := Lib.hid hO
          have hk1 : ¬ (k : Int) < (k : Int) := by omega
          clear hO
          go_wp2
          go_ret
          exact ⟨gD, q, cq, hs, rfl, HO.out, hb⟩
end Go.Proofs.Yteelmhmdnljjnaa
