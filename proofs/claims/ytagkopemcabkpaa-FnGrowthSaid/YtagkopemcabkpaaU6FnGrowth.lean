/- Texts of this claim, one behind the other: part 6. -/
import Derived.Test.YtagkopemcabkpaaU5FnGrowth
import Derived.Outline
import Derived.WalkLawsBesides
import Derived.WalkSpells
import Derived.BigQuiet
import Derived.Deep.QuietTactic
import Derived.Deep.RegionHeld3
import Derived.Deep.RegionWith
import Derived.Deep.DeepCutAuto
import Derived.Deep.CutBlock
import Derived.Deep.DrawnRows
/- The shapes with one cell more: the reference. -/
namespace Go.Proofs.Ytagkopemcabkpaa
open Go.RowKit
set_option linter.unusedVariables false
attribute [local go_sem ↓] Go.wp_at_zero Go.wp_at_succ

theorem sidesS_small {c : C} (h : onB c = true) : ∀ d ∈ sidesS c, -1 ≤ d.1 ∧ d.1 ≤ 8 ∧ -1 ≤ d.2 ∧ d.2 ≤ 8 := by
  intro d hd
  exact sidesV_small h d ((sides_same c d).2 hd)
theorem own_lit2 (w : World) {base : Nat} (h : base ≤ w.heap.size) : (w.alloc (.cells #[] 55)).ownsRow base 55 2 (.slice (some ⟨w.heap.size, 0, none⟩) 0 0) 0 (vC []) := own_new w _ 2 0 #[] rfl (by simp [maxLen]) h
/-- The shapes with one cell more, as the reference has them: none for a list that is no shape, or has eight cells. -/
def extR (s : List C) : List (List C) := if isShape s = true ∧ s.length ≠ 8 then extV s else []
def RetFA (w : World) (F : List (List C)) (e : Ending) (w' : World) : Prop :=
  ∃ g n c hs, e = .returned (.slice (some ⟨g, 0, none⟩) n c) ∧ OwnF w.heap.size w' (some ⟨g, 0, none⟩) n c hs F ∧ Below w.heap.size w w'
set_option maxRecDepth 100000 in
set_option maxHeartbeats 6400000 in
theorem ExtensionsOf_s (A : Option Addr) (n c : Nat) (xs : List C) (w : World) (hr : Rd w A (vC xs)) (hl : xs.length = n) (hn : n ≤ 1048576) :
    Calls Try.prog 71 #[.slice A n c] w (RetFA w (extR xs)) := by
  have hini : (w.alloc (.cells #[] 30)).ownsRow w.heap.size 30 1 (.slice (some ⟨w.heap.size, 0, none⟩) 0 0) 0 [] := own_new w _ 1 0 #[] rfl (by simp [maxLen]) (Nat.le_refl _)
  have HI := Lib.hid (OwnF.none_ hini)
  have HL := Lib.hid hl
  have HR := Lib.hid hr
  have hnn : n ≤ 1099511627776 := by omega
  cases hs : isShape xs with
  | false =>
    have HV : Hid (extR xs = []) := by show extR xs = []; unfold extR; rw [hs]; simp
    have HS := Lib.hid hs
    clear hs hl hr hini
    go_enter Try.func71, Try.ntmps71
    go_wp2_with fail
    refine (IsShape_s A n c xs _ (HR.out.alloc _) HL.out hnn).mono ?_
    rw [HS.out]
    rintro e w1 ⟨rfl, hb1⟩
    go_wp2_with fail
    go_ret
    exact ⟨w.heap.size, 0, 0, [], rfl, by rw [HV.out]; exact HI.out.below hb1, bel_trans (bel_alloc (Below.refl _ _) _) hb1⟩
  | true =>
    by_cases h8 : n = 8
    · have HV : Hid (extR xs = []) := by show extR xs = []; unfold extR; rw [if_neg (by rw [hl]; simp [h8])]
      have HS := Lib.hid hs
      have e8 : ((n : Int) == 8) = true := by simp [h8]
      have e8n : n = 8 := h8
      clear hs hl hr hini h8 e8n
      go_enter Try.func71, Try.ntmps71
      go_wp2_with fail
      refine (IsShape_s A n c xs _ (HR.out.alloc _) HL.out hnn).mono ?_
      rw [HS.out]
      rintro e w1 ⟨rfl, hb1⟩
      go_wp2_with fail
      go_ret
      exact ⟨w.heap.size, 0, 0, [], rfl, by rw [HV.out]; exact HI.out.below hb1, bel_trans (bel_alloc (Below.refl _ _) _) hb1⟩
    · have HV : Hid (extR xs = extTo sidesS xs n) := by show extR xs = _; unfold extR; rw [if_pos ⟨hs, by rw [hl]; exact h8⟩, ← hl, ext_same]
      have hn7 : n ≤ 7 := by have := (shape_len hs).2; omega
      have HSH := Lib.hid hs
      have e8 : ((n : Int) == 8) = false := by rw [beq_eq_false_iff_ne]; omega
      have h8n : ¬ n = 8 := h8
      clear hs hl hr hini h8
      go_enter Try.func71, Try.ntmps71
      go_wp2_with fail
      refine (IsShape_s A n c xs _ (HR.out.alloc _) HL.out hnn).mono ?_
      rw [HSH.out]
      rintro e w1 ⟨rfl, hb1⟩
      have HI1 := Lib.hid (HI.out.below hb1)
      have hbw1 : Below w.heap.size w w1 := bel_trans (bel_alloc (Below.refl _ _) _) hb1
      go_wp2_with fail
      go_loopw [4, 3] (fun e4 e3 wr => ∃ (k g q cq : Nat) (hs : List H), k ≤ n ∧ e4 = .int .i64 k ∧ e3 = .slice (some ⟨g, 0, none⟩) q cq ∧ OwnF w.heap.size wr (some ⟨g, 0, none⟩) q cq hs (extTo sidesS xs k) ∧ Below w.heap.size w wr) (fun e4 _ _ => n - (intOf e4).toNat)
      case atStart => exact ⟨0, _, 0, 0, [], Nat.zero_le _, rfl, rfl, HI1.out, hbw1⟩
      case round =>
        clear HI1 hbw1 hb1
        obtain ⟨k, gD, q, cq, hs, hk, rfl, rfl, hO, hb⟩ := hrel
        by_cases hlt : k < n
        · have hkl : k < xs.length := by rw [HL.out]; exact hlt
          have hk0 : (0 : Int) ≤ (k : Int) := by omega
          have hk1 : (k : Int) < (n : Int) := by omega
          have hon := shape_onB HSH.out _ (List.getElem_mem hkl)
          have hst := extTo_succ sidesS xs k hkl
          have hsl := extTo_len sidesS (fun _ => rfl) xs k (by omega)
          obtain ⟨p, hp⟩ : ∃ p, xs[k].1 = p := ⟨_, rfl⟩
          obtain ⟨r, hrr⟩ : ∃ r, xs[k].2 = r := ⟨_, rfl⟩
          rw [show xs[k] = (p, r) from Prod.ext hp hrr] at hon hst
          have hsv := sidesS_small hon
          have hpr : 0 ≤ p ∧ p ≤ 7 ∧ 0 ≤ r ∧ r ≤ 7 := by simp [onB] at hon; omega
          have hfine := extTo_fine sidesS xs k
          obtain ⟨F0, hF0⟩ : ∃ F0, extTo sidesS xs k = F0 := ⟨_, rfl⟩
          rw [hF0] at hst hsl hO hfine
          have HST := Lib.hid hst
          have HFI := Lib.hid hfine
          have HSV := Lib.hid hsv
          have HO := Lib.hid hO
          have HP := Lib.hid hp
          have HRR := Lib.hid hrr
          have HPR := Lib.hid hpr
          clear hst hfine hsv hO hp hrr hon hF0 hpr
          go_wp2_with fail
          go_loopw [5, 3] (fun e5 e3 wr => ∃ (j g q cq : Nat) (hs : List H) (F : List (List C)), j ≤ 4 ∧ e5 = .int .i64 j ∧ e3 = .slice (some ⟨g, 0, none⟩) q cq ∧ F = ((sidesS (p, r)).take j).foldl (extStep xs) F0 ∧ OwnF w.heap.size wr (some ⟨g, 0, none⟩) q cq hs F ∧ FineF F ∧ F.length ≤ 4 * k + j ∧ Below w.heap.size w wr) (fun e5 _ _ => 4 - (intOf e5).toNat)
          case atStart => exact ⟨0, gD, q, cq, hs, F0, Nat.zero_le _, rfl, rfl, rfl, HO.out, HFI.out, by omega, hb⟩
          case round =>
            clear HO hb hsl HFI
            obtain ⟨j, gD, q, cq, hs, F, hj, rfl, rfl, hF, hO, hfi, hfl, hb⟩ := hrel
            by_cases hj4 : j < 4
            · have hjl : j < (sidesS (p, r)).length := hj4
              have hj0 : (0 : Int) ≤ (j : Int) := by omega
              have hj1 : (j : Int) < 4 := by omega
              have hsm := HSV.out _ (List.getElem_mem hjl)
              have hstep : ((sidesS (p, r)).take (j + 1)).foldl (extStep xs) F0 = extStep xs F (sidesS (p, r))[j] := by
                rw [List.take_succ_eq_append_getElem hjl, List.foldl_append, ← hF]
                rfl
              obtain ⟨da, db, e1, e2, hd1, hd2, hab⟩ : ∃ da db : Int, ((1 : Int) - (j : Int)).tmod 2 = da ∧ ((2 : Int) - (j : Int)).tmod 2 = db ∧ (-1 ≤ da ∧ da ≤ 1) ∧ (-1 ≤ db ∧ db ≤ 1) ∧ (sidesS (p, r))[j] = (p + da, r + db) := by
                rcases (by omega : j = 0 ∨ j = 1 ∨ j = 2 ∨ j = 3) with rfl | rfl | rfl | rfl
                · exact ⟨1, 0, by decide, by decide, by omega, by omega, by simp [sidesS]⟩
                · exact ⟨0, 1, by decide, by decide, by omega, by omega, by simp [sidesS]⟩
                · exact ⟨-1, 0, by decide, by decide, by omega, by omega, by simp [sidesS]; omega⟩
                · exact ⟨0, -1, by decide, by decide, by omega, by omega, by simp [sidesS]; omega⟩
              have hpr := HPR.out
              obtain ⟨x, hx⟩ : ∃ x, p + da = x := ⟨_, rfl⟩
              obtain ⟨y, hy⟩ : ∃ y, r + db = y := ⟨_, rfl⟩
              rw [hab, hx, hy] at hsm hstep
              have v1 : IntKind.i64.wrap ((1 : Int) - (j : Int)) = (1 : Int) - (j : Int) := Go.IntWalk.i64_in _ (by omega)
              have v2 : IntKind.i64.wrap ((2 : Int) - (j : Int)) = (2 : Int) - (j : Int) := Go.IntWalk.i64_in _ (by omega)
              have v3 : IntKind.i64.wrap x = x := Go.IntWalk.i64_in _ (by omega)
              have v4 : IntKind.i64.wrap y = y := Go.IntWalk.i64_in _ (by omega)
              have v5 : IntKind.i64.wrap da = da := Go.IntWalk.i64_in _ (by omega)
              have v6 : IntKind.i64.wrap db = db := Go.IntWalk.i64_in _ (by omega)
              have hsmall := app_small HSH.out hsm
              have HSM := Lib.hid hsmall
              have HF := Lib.hid hF
              have HQF := Lib.hid hO.flen
              have hq33 : q ≤ 4 * k + j := by rw [← hO.flen]; exact hfl
              have HO := Lib.hid hO
              have HFI2 := Lib.hid hfi
              have HX := Lib.hid (HR.out.below hb)
              obtain ⟨g, off, hA, hg, d1, d2⟩ := RdC.at_ (HR.out.below hb) hkl
              subst hA
              rw [HP.out] at d1
              rw [HRR.out] at d2
              clear hF hO hfi hsm hsmall hab hd1 hd2 hpr
              go_wp2_with fail
              (refine wp_region_tailN (C := ExC wr) 19 (by kernel_rfl) (by kernel_rfl) (ExC.drawn _) (fun _ _ h k => ExC.ext h k) ?_; simp only [List.take_succ_cons, List.take_zero, List.drop_succ_cons, List.drop_zero]; (repeat (first | (refine headSkip (by rfl) rfl ?_; simp only [List.setIfInBounds_toArray, List.set_cons_zero, List.set_cons_succ]) | (refine headV (v := ?_) (by rfl) rfl (fun w' hcw => ?_) ?_; rotate_left; ((try dsimp only at hcw); have hbc := hcw.cells; go_simp; first | done | with_reducible rfl | fail); simp only [List.setIfInBounds_toArray, List.set_cons_zero, List.set_cons_succ]))); unfold wpHead)
              (refine tailK (by rfl) (fun b3 hc3 he3 K hK => ?_); go_simp; refine hK _ _ (hc3.ext (bel_alloc (Below.refl _ _) _)) ?_; clear hK K)
              have k3 := Blk.new b3 55 #[.int .i64 0, .int .i64 0]
              have hz3 := he3.size
              refine tailK (by rfl) (fun b4 hc4 he4 K hK => ?_)
              have k4 := k3.below he4
              have q1 : b4.cell? ⟨b3.heap.size, 0, none⟩ = some (.int .i64 0) := by simpa using k4.cell 0
              have q2 : b4.cell? ⟨b3.heap.size, 1, none⟩ = some (.int .i64 0) := by simpa using k4.cell 1
              have f1 := k4.frozen 0
              have f2 := k4.frozen 1
              go_simp
              refine hK _ _ (bel_set (bel_set hc4 (by simp; omega)) (by simp; omega)) ?_
              clear hK K
              (refine fun b5 hc5 he5 => NoPanic.normal ?_)
              have hK5 := ((k4.set_ 0 (.int .i64 x)).set_ 1 (.int .i64 y)).below he5
              have m0 : b5.cell? ⟨b3.heap.size, 0, none⟩ = some (.int .i64 x) := by simpa using hK5.cell 0
              have m1 : b5.cell? ⟨b3.heap.size, 1, none⟩ = some (.int .i64 y) := by simpa using hK5.cell 1
              have ml := hK5.lt
              have HK5 := Lib.hid hK5
              have hbr5 : Below wr.heap.size wr b5 := hc5
              clear k3 k4 hc3 he3 hc4 he4 q1 q2 f1 f2 hc5 he5 hK5 d1 d2
              cases hh : hasC xs x y with
              | true =>
                have HN : Hid (((sidesS (p, r)).take (j + 1)).foldl (extStep xs) F0 = F) := by show _ = F; rw [hstep]; unfold extStep; simp only [hh, if_true]
                have HH := Lib.hid hh
                clear hh hstep
                go_wp2_with fail
                refine (HasCell_s _ n c xs x y _ (HX.out.below hbr5) HL.out hnn).mono ?_
                rw [show hasC xs x y = true from HH.out]
                rintro e w2 ⟨rfl, hb2⟩
                have hb3 := bel_trans hbr5 hb2
                go_wp2_with fail
                exact ⟨⟨j + 1, gD, q, cq, hs, F, by omega, by go_num, rfl, HN.out.symm, HO.out.below hb3, HFI2.out, by have := HQF.out; omega, bel_trans hb hb3⟩, by simp [intOf]; omega⟩
              | false =>
                have HH := Lib.hid hh
                go_wp2_with fail
                refine (HasCell_s _ n c xs x y _ (HX.out.below hbr5) HL.out hnn).mono ?_
                rw [show hasC xs x y = false from HH.out]
                rintro e w2 ⟨rfl, hb2⟩
                have hb2r : Below wr.heap.size wr w2 := bel_trans hbr5 hb2
                have hCB := HK5.out.below hb2
                have z0 : w2.cell? ⟨b3.heap.size, 0, none⟩ = some (.int .i64 x) := by simpa using hCB.cell 0
                have z1 : w2.cell? ⟨b3.heap.size, 1, none⟩ = some (.int .i64 y) := by simpa using hCB.cell 1
                have zl := hCB.lt
                clear hCB m0 m1 ml
                go_wp2_with fail
                refine wp_region_rg 9 rfl (by kernel_rfl) ?_
                (refine rgT (i := 1) (v := ?_) rfl rfl (by kernel_rfl) (by kernel_rfl) (by kernel_rfl) (by rfl) (fun w' hcw => ?_) ?_; rotate_left; ((try dsimp only at hcw); have hbc := hcw.cells; go_simp; first | done | with_reducible rfl); simp only [List.setIfInBounds_toArray, List.set_cons_zero, List.set_cons_succ])
                (refine rgT (i := 3) (v := ?_) rfl rfl (by kernel_rfl) (by kernel_rfl) (by kernel_rfl) (by rfl) (fun w' hcw => ?_) ?_; rotate_left; ((try dsimp only at hcw); have hbc := hcw.cells; go_simp; first | done | with_reducible rfl); simp only [List.setIfInBounds_toArray, List.set_cons_zero, List.set_cons_succ])
                refine rgK_two (i := 0) (k := 4) (by kernel_rfl) rfl rfl rfl rfl (fun u0 hc0 he0 K hK => ?_) (fun u4 hc4 he4 K hK => ?_)
                · go_simp
                  refine hK _ _ (bel_alloc hc0 _) ?_
                  clear hK K
                  refine rgK_two (i := 2) (k := 4) (by kernel_rfl) rfl rfl rfl rfl (fun u2 hc2 he2 K hK => ?_) (fun u4 hc4 he4 K hK => ?_)
                  · refine wpC _ _ _ rfl w2.heap.size (some ⟨u0.heap.size, 0, none⟩) 0 0 [] rfl (own_keep (own_lit2 u0 hc0.size) he2) (some ⟨g, off, none⟩) n c xs rfl (HX.out.below (bel_trans hb2r hc2)) HL.out (by omega) (hc2.size) ?_
                    intro DD cD w3 ho3 hg3 hat3
                    have hx3 : Below w2.heap.size w2 w3 := bel_app hc2 hg3 (fun g h => by simp only [ob, Option.map_some, Option.some.injEq] at h; subst h; exact hc0.size)
                    refine hK _ _ hx3 ?_
                    clear hK K
                    simp only [Act.put, List.setIfInBounds_toArray, Nat.zero_add]
                    simp only [Nat.zero_add, List.nil_append] at ho3
                    have HOD := Lib.hid ho3
                    have HDL : Hid (∀ g, ob DD = some g → w2.heap.size ≤ g) := fun g e => (own_lt HOD.out g e).1
                    have hgu0 := hc0.size
                    clear ho3
                    refine rgK_one (i := 4) (by kernel_rfl) rfl rfl (fun u4 hc4 he4 K hK => ?_)
                    go_simp
                    refine hK _ _ (bel_alloc hc4 _) ?_
                    clear hK K
                    refine rgK_one (i := 5) (by kernel_rfl) rfl rfl (fun u5 hc5 he5 K hK => ?_)
                    refine wpC _ _ _ rfl w2.heap.size DD n cD xs rfl (own_keep (own_keep HOD.out (bel_trans he4 (bel_alloc (Below.refl _ _) _))) he5) _ 1 1 [(x, y)] rfl ((rd_newC u4 _ x y).below he5) rfl (by omega) (hc5.size) ?_
                    intro D2 c2 w5 ho5 hg5 _
                    have hx5 : Below w2.heap.size w2 w5 := bel_app hc5 hg5 (fun g h => HDL.out g h)
                    refine hK _ _ hx5 ?_
                    clear hK K
                    simp only [Act.put, List.setIfInBounds_toArray]
                    have HO5 := Lib.hid ho5
                    clear ho5 hg5
                    refine rgK_one (i := 6) (by kernel_rfl) rfl rfl (fun u6 hc6 he6 K hK => ?_)
                    go_simp
                    refine (SortCells_s D2 (n + 1) c2 (xs ++ [(x, y)]) _ (Rd.of_own (own_keep HO5.out he6)) (by simp [HL.out]) (by omega)).mono ?_
                    rintro e w6 ⟨E, m, cE, rfl, ho6, hb6⟩
                    have hx6 : Below w2.heap.size w2 w6 := bel_trans hc6 hb6
                    refine hK _ _ hx6 ?_
                    clear hK K
                    have hml : (sortC (xs ++ [(x, y)])).length = m := by have := own_len ho6; rw [vC_length] at this; omega
                    have hm9 : m ≤ 8 := by have := sortC_len (xs ++ [(x, y)]); rw [hml] at this; simp [HL.out] at this; omega
                    have HML6 := Lib.hid hml
                    have HO6 := Lib.hid ho6
                    clear ho6 hml
                    refine rgK_one (i := 7) (by kernel_rfl) rfl rfl (fun u7 hc7 he7 K hK => ?_)
                    go_simp
                    refine (l2Corner_s E m cE (sortC (xs ++ [(x, y)])) _ (Rd.of_own (own_keep HO6.out he7)) HML6.out (by omega) (fun d hd => HSM.out d ((sortC_mem _ _).1 hd))).mono ?_
                    rw [← corn_eq (s := xs ++ [(x, y)]) (by simp)]
                    rintro e w7 ⟨E2, m2, cE2, rfl, ho7, hb7⟩
                    have hx7 : Below w2.heap.size w2 w7 := bel_trans hc7 hb7
                    refine hK _ _ hx7 ?_
                    clear hK K
                    have HO7 := Lib.hid ho7
                    clear ho7
                    refine rgK_one (i := 8) (by kernel_rfl) rfl rfl (fun u8 hc8 he8 K hK => ?_)
                    go_simp
                    refine hK _ _ hc8 ?_
                    clear hK K
                    refine ⟨by kernel_rfl, fun wz hcz hez => NoPanic.normal ?_⟩
                    have HO9 := Lib.hid (own_keep (own_keep HO7.out he8) hez)
                    have hbz : Below w2.heap.size w2 wz := hcz
                    have hb39 : Below wr.heap.size wr wz := bel_trans hb2r hbz
                    have hb9 : Below w.heap.size w wz := bel_trans hb hb39
                    clear HO6 HO5 HO7 HML6 hx5 hc5 he5 hb6 hx6 hc6 he6 hc7 he7 hb7 hx7 hc8 he8 hcz hez
                    have hml : (cornI (xs ++ [(x, y)])).length = m2 := by have := own_len HO9.out; rw [vC_length] at this; omega
                    have hm13 : m2 ≤ 9 := by have := cornI_len (xs ++ [(x, y)]); rw [hml] at this; simp [HL.out] at this; omega
                    have hdef : extStep xs F (x, y) = if isShape (cornI (xs ++ [(x, y)])) then putG ltS F (cornI (xs ++ [(x, y)])) else F := by unfold extStep; simp only [hh, Bool.false_eq_true, if_false]
                    rw [hdef] at hstep
                    obtain ⟨s2, hs2⟩ : ∃ s2, cornI (xs ++ [(x, y)]) = s2 := ⟨_, rfl⟩
                    rw [hs2] at hml hstep HO9
                    have HML := Lib.hid hml
                    cases hsh : isShape s2 with
                    | true =>
                      rw [hsh, if_pos rfl] at hstep
                      have HSTEP := Lib.hid hstep
                      have HS2 := Lib.hid hsh
                      clear hstep hsh hml hs2 hdef hh
                      go_wp2_with fail
                      refine (IsShape_s E2 m2 cE2 s2 _ (Rd.of_own HO9.out) HML.out (by omega)).mono ?_
                      rw [HS2.out]
                      rintro e w8 ⟨rfl, hb8⟩
                      have HOF := Lib.hid (HO.out.below (bel_trans hb39 hb8))
                      have HOE := Lib.hid (own_keep HO9.out hb8)
                      go_wp2_with fail
                      refine (l3Put_s gD q cq hs F E2 m2 cE2 s2 w.heap.size _ HOF.out (CRow.of_own HOE.out) (fun x hx => by have := HFI2.out.len x hx; omega) (by omega) (by omega) (by have := hb9.size; have := hb8.size; omega)).mono ?_
                      rw [← HSTEP.out]
                      rintro e w9 ⟨gE, q3, c3, hs3, rfl, hO8, hb10⟩
                      have HO8 := Lib.hid hO8
                      have HFL8 : Hid ((((sidesS (p, r)).take (j + 1)).foldl (extStep xs) F0).length ≤ 4 * k + (j + 1)) := by
                        show _ ≤ _
                        rw [HSTEP.out]
                        have := putG_len (lt := ltS) F s2
                        have := HQF.out
                        omega
                      have HF8 : Hid (FineF (((sidesS (p, r)).take (j + 1)).foldl (extStep xs) F0)) := by show FineF _; rw [HSTEP.out]; exact HFI2.out.put HS2.out
                      clear hO8
                      go_wp2_with fail
                      exact ⟨⟨j + 1, gE, q3, c3, hs3, _, by omega, by go_num, rfl, rfl, HO8.out, HF8.out, HFL8.out, bel_trans hb9 (bel_trans hb8 hb10)⟩, by simp [intOf]; omega⟩
                    | false =>
                      rw [hsh] at hstep
                      have HSTEP : Hid (((sidesS (p, r)).take (j + 1)).foldl (extStep xs) F0 = F) := by show _ = F; rw [hstep]; rfl
                      have HS2 := Lib.hid hsh
                      clear hstep hsh hml hs2 hdef hh
                      go_wp2_with fail
                      refine (IsShape_s E2 m2 cE2 s2 _ (Rd.of_own HO9.out) HML.out (by omega)).mono ?_
                      rw [HS2.out]
                      rintro e w8 ⟨rfl, hb8⟩
                      go_wp2_with fail
                      exact ⟨⟨j + 1, gD, q, cq, hs, F, by omega, by go_num, rfl, HSTEP.out.symm, HO.out.below (bel_trans hb39 hb8), HFI2.out, by have := HQF.out; omega, bel_trans hb9 hb8⟩, by simp [intOf]; omega⟩
                  · go_simp
                    refine hK _ _ (bel_alloc hc4 _) ?_
                    clear hK K
                    refine rgK_one (i := 2) (by kernel_rfl) rfl rfl (fun u2 hc2 he2 K hK => ?_)
                    refine wpC _ _ _ rfl w2.heap.size (some ⟨u0.heap.size, 0, none⟩) 0 0 [] rfl (own_keep ((own_keep (own_lit2 u0 hc0.size) he4).alloc _) he2) (some ⟨g, off, none⟩) n c xs rfl (HX.out.below (bel_trans hb2r hc2)) HL.out (by omega) (hc2.size) ?_
                    intro DD cD w3 ho3 hg3 hat3
                    have hx3 : Below w2.heap.size w2 w3 := bel_app hc2 hg3 (fun g h => by simp only [ob, Option.map_some, Option.some.injEq] at h; subst h; exact hc0.size)
                    refine hK _ _ hx3 ?_
                    clear hK K
                    simp only [Act.put, List.setIfInBounds_toArray, Nat.zero_add]
                    simp only [Nat.zero_add, List.nil_append] at ho3
                    have HOD := Lib.hid ho3
                    have HDL : Hid (∀ g, ob DD = some g → w2.heap.size ≤ g) := fun g e => (own_lt HOD.out g e).1
                    have hgu0 := hc0.size
                    clear ho3
                    have hz4 := he4.size
                    simp only [World.size_alloc] at hz4
                    refine rgK_one (i := 5) (by kernel_rfl) rfl rfl (fun u5 hc5 he5 K hK => ?_)
                    refine wpC _ _ _ rfl w2.heap.size DD n cD xs rfl (own_keep HOD.out he5) _ 1 1 [(x, y)] rfl ((((rd_newC u4 _ x y).below he2).grown hg3 (fun g e r => by simp only [ob, Option.map_some, Option.some.injEq] at e r; omega)).below he5) rfl (by omega) (hc5.size) ?_
                    intro D2 c2 w5 ho5 hg5 _
                    have hx5 : Below w2.heap.size w2 w5 := bel_app hc5 hg5 (fun g h => HDL.out g h)
                    refine hK _ _ hx5 ?_
                    clear hK K
                    simp only [Act.put]
                    have HO5 := Lib.hid ho5
                    clear ho5 hg5
                    refine rgK_one (i := 6) (by kernel_rfl) rfl rfl (fun u6 hc6 he6 K hK => ?_)
                    go_simp
                    refine (SortCells_s D2 (n + 1) c2 (xs ++ [(x, y)]) _ (Rd.of_own (own_keep HO5.out he6)) (by simp [HL.out]) (by omega)).mono ?_
                    rintro e w6 ⟨E, m, cE, rfl, ho6, hb6⟩
                    have hx6 : Below w2.heap.size w2 w6 := bel_trans hc6 hb6
                    refine hK _ _ hx6 ?_
                    clear hK K
                    have hml : (sortC (xs ++ [(x, y)])).length = m := by have := own_len ho6; rw [vC_length] at this; omega
                    have hm9 : m ≤ 8 := by have := sortC_len (xs ++ [(x, y)]); rw [hml] at this; simp [HL.out] at this; omega
                    have HML6 := Lib.hid hml
                    have HO6 := Lib.hid ho6
                    clear ho6 hml
                    refine rgK_one (i := 7) (by kernel_rfl) rfl rfl (fun u7 hc7 he7 K hK => ?_)
                    go_simp
                    refine (l2Corner_s E m cE (sortC (xs ++ [(x, y)])) _ (Rd.of_own (own_keep HO6.out he7)) HML6.out (by omega) (fun d hd => HSM.out d ((sortC_mem _ _).1 hd))).mono ?_
                    rw [← corn_eq (s := xs ++ [(x, y)]) (by simp)]
                    rintro e w7 ⟨E2, m2, cE2, rfl, ho7, hb7⟩
                    have hx7 : Below w2.heap.size w2 w7 := bel_trans hc7 hb7
                    refine hK _ _ hx7 ?_
                    clear hK K
                    have HO7 := Lib.hid ho7
                    clear ho7
                    refine rgK_one (i := 8) (by kernel_rfl) rfl rfl (fun u8 hc8 he8 K hK => ?_)
                    go_simp
                    refine hK _ _ hc8 ?_
                    clear hK K
                    refine ⟨by kernel_rfl, fun wz hcz hez => NoPanic.normal ?_⟩
                    have HO9 := Lib.hid (own_keep (own_keep HO7.out he8) hez)
                    have hbz : Below w2.heap.size w2 wz := hcz
                    have hb39 : Below wr.heap.size wr wz := bel_trans hb2r hbz
                    have hb9 : Below w.heap.size w wz := bel_trans hb hb39
                    clear HO6 HO5 HO7 HML6 hx5 hc5 he5 hb6 hx6 hc6 he6 hc7 he7 hb7 hx7 hc8 he8 hcz hez
                    have hml : (cornI (xs ++ [(x, y)])).length = m2 := by have := own_len HO9.out; rw [vC_length] at this; omega
                    have hm13 : m2 ≤ 9 := by have := cornI_len (xs ++ [(x, y)]); rw [hml] at this; simp [HL.out] at this; omega
                    have hdef : extStep xs F (x, y) = if isShape (cornI (xs ++ [(x, y)])) then putG ltS F (cornI (xs ++ [(x, y)])) else F := by unfold extStep; simp only [hh, Bool.false_eq_true, if_false]
                    rw [hdef] at hstep
                    obtain ⟨s2, hs2⟩ : ∃ s2, cornI (xs ++ [(x, y)]) = s2 := ⟨_, rfl⟩
                    rw [hs2] at hml hstep HO9
                    have HML := Lib.hid hml
                    cases hsh : isShape s2 with
                    | true =>
                      rw [hsh, if_pos rfl] at hstep
                      have HSTEP := Lib.hid hstep
                      have HS2 := Lib.hid hsh
                      clear hstep hsh hml hs2 hdef hh
                      go_wp2_with fail
                      refine (IsShape_s E2 m2 cE2 s2 _ (Rd.of_own HO9.out) HML.out (by omega)).mono ?_
                      rw [HS2.out]
                      rintro e w8 ⟨rfl, hb8⟩
                      have HOF := Lib.hid (HO.out.below (bel_trans hb39 hb8))
                      have HOE := Lib.hid (own_keep HO9.out hb8)
                      go_wp2_with fail
                      refine (l3Put_s gD q cq hs F E2 m2 cE2 s2 w.heap.size _ HOF.out (CRow.of_own HOE.out) (fun x hx => by have := HFI2.out.len x hx; omega) (by omega) (by omega) (by have := hb9.size; have := hb8.size; omega)).mono ?_
                      rw [← HSTEP.out]
                      rintro e w9 ⟨gE, q3, c3, hs3, rfl, hO8, hb10⟩
                      have HO8 := Lib.hid hO8
                      have HFL8 : Hid ((((sidesS (p, r)).take (j + 1)).foldl (extStep xs) F0).length ≤ 4 * k + (j + 1)) := by
                        show _ ≤ _
                        rw [HSTEP.out]
                        have := putG_len (lt := ltS) F s2
                        have := HQF.out
                        omega
                      have HF8 : Hid (FineF (((sidesS (p, r)).take (j + 1)).foldl (extStep xs) F0)) := by show FineF _; rw [HSTEP.out]; exact HFI2.out.put HS2.out
                      clear hO8
                      go_wp2_with fail
                      exact ⟨⟨j + 1, gE, q3, c3, hs3, _, by omega, by go_num, rfl, rfl, HO8.out, HF8.out, HFL8.out, bel_trans hb9 (bel_trans hb8 hb10)⟩, by simp [intOf]; omega⟩
                    | false =>
                      rw [hsh] at hstep
                      have HSTEP : Hid (((sidesS (p, r)).take (j + 1)).foldl (extStep xs) F0 = F) := by show _ = F; rw [hstep]; rfl
                      have HS2 := Lib.hid hsh
                      clear hstep hsh hml hs2 hdef hh
                      go_wp2_with fail
                      refine (IsShape_s E2 m2 cE2 s2 _ (Rd.of_own HO9.out) HML.out (by omega)).mono ?_
                      rw [HS2.out]
                      rintro e w8 ⟨rfl, hb8⟩
                      go_wp2_with fail
                      exact ⟨⟨j + 1, gD, q, cq, hs, F, by omega, by go_num, rfl, HSTEP.out.symm, HO.out.below (bel_trans hb39 hb8), HFI2.out, by have := HQF.out; omega, bel_trans hb9 hb8⟩, by simp [intOf]; omega⟩
                · go_simp
                  refine hK _ _ (bel_alloc hc4 _) ?_
                  clear hK K
                  refine rgK_one (i := 0) (by kernel_rfl) rfl rfl (fun u0 hc0 he0 K hK => ?_)
                  go_simp
                  refine hK _ _ (bel_alloc hc0 _) ?_
                  clear hK K
                  refine rgK_one (i := 2) (by kernel_rfl) rfl rfl (fun u2 hc2 he2 K hK => ?_)
                  refine wpC _ _ _ rfl w2.heap.size (some ⟨u0.heap.size, 0, none⟩) 0 0 [] rfl (own_keep (own_lit2 u0 hc0.size) he2) (some ⟨g, off, none⟩) n c xs rfl (HX.out.below (bel_trans hb2r hc2)) HL.out (by omega) (hc2.size) ?_
                  intro DD cD w3 ho3 hg3 hat3
                  have hx3 : Below w2.heap.size w2 w3 := bel_app hc2 hg3 (fun g h => by simp only [ob, Option.map_some, Option.some.injEq] at h; subst h; exact hc0.size)
                  refine hK _ _ hx3 ?_
                  clear hK K
                  simp only [Act.put, List.setIfInBounds_toArray, Nat.zero_add]
                  simp only [Nat.zero_add, List.nil_append] at ho3
                  have HOD := Lib.hid ho3
                  have HDL : Hid (∀ g, ob DD = some g → w2.heap.size ≤ g) := fun g e => (own_lt HOD.out g e).1
                  have hgu0 := hc0.size
                  clear ho3
                  have hz0 := he0.size
                  simp only [World.size_alloc] at hz0
                  refine rgK_one (i := 5) (by kernel_rfl) rfl rfl (fun u5 hc5 he5 K hK => ?_)
                  refine wpC _ _ _ rfl w2.heap.size DD n cD xs rfl (own_keep HOD.out he5) _ 1 1 [(x, y)] rfl ((((((rd_newC u4 _ x y).below he0).alloc _).below he2).grown hg3 (fun g e r => by simp only [ob, Option.map_some, Option.some.injEq] at e r; omega)).below he5) rfl (by omega) (hc5.size) ?_
                  intro D2 c2 w5 ho5 hg5 _
                  have hx5 : Below w2.heap.size w2 w5 := bel_app hc5 hg5 (fun g h => HDL.out g h)
                  refine hK _ _ hx5 ?_
                  clear hK K
                  simp only [Act.put]
                  have HO5 := Lib.hid ho5
                  clear ho5 hg5
                  refine rgK_one (i := 6) (by kernel_rfl) rfl rfl (fun u6 hc6 he6 K hK => ?_)
                  go_simp
                  refine (SortCells_s D2 (n + 1) c2 (xs ++ [(x, y)]) _ (Rd.of_own (own_keep HO5.out he6)) (by simp [HL.out]) (by omega)).mono ?_
                  rintro e w6 ⟨E, m, cE, rfl, ho6, hb6⟩
                  have hx6 : Below w2.heap.size w2 w6 := bel_trans hc6 hb6
                  refine hK _ _ hx6 ?_
                  clear hK K
                  have hml : (sortC (xs ++ [(x, y)])).length = m := by have := own_len ho6; rw [vC_length] at this; omega
                  have hm9 : m ≤ 8 := by have := sortC_len (xs ++ [(x, y)]); rw [hml] at this; simp [HL.out] at this; omega
                  have HML6 := Lib.hid hml
                  have HO6 := Lib.hid ho6
                  clear ho6 hml
                  refine rgK_one (i := 7) (by kernel_rfl) rfl rfl (fun u7 hc7 he7 K hK => ?_)
                  go_simp
                  refine (l2Corner_s E m cE (sortC (xs ++ [(x, y)])) _ (Rd.of_own (own_keep HO6.out he7)) HML6.out (by omega) (fun d hd => HSM.out d ((sortC_mem _ _).1 hd))).mono ?_
                  rw [← corn_eq (s := xs ++ [(x, y)]) (by simp)]
                  rintro e w7 ⟨E2, m2, cE2, rfl, ho7, hb7⟩
                  have hx7 : Below w2.heap.size w2 w7 := bel_trans hc7 hb7
                  refine hK _ _ hx7 ?_
                  clear hK K
                  have HO7 := Lib.hid ho7
                  clear ho7
                  refine rgK_one (i := 8) (by kernel_rfl) rfl rfl (fun u8 hc8 he8 K hK => ?_)
                  go_simp
                  refine hK _ _ hc8 ?_
                  clear hK K
                  refine ⟨by kernel_rfl, fun wz hcz hez => NoPanic.normal ?_⟩
                  have HO9 := Lib.hid (own_keep (own_keep HO7.out he8) hez)
                  have hbz : Below w2.heap.size w2 wz := hcz
                  have hb39 : Below wr.heap.size wr wz := bel_trans hb2r hbz
                  have hb9 : Below w.heap.size w wz := bel_trans hb hb39
                  clear HO6 HO5 HO7 HML6 hx5 hc5 he5 hb6 hx6 hc6 he6 hc7 he7 hb7 hx7 hc8 he8 hcz hez
                  have hml : (cornI (xs ++ [(x, y)])).length = m2 := by have := own_len HO9.out; rw [vC_length] at this; omega
                  have hm13 : m2 ≤ 9 := by have := cornI_len (xs ++ [(x, y)]); rw [hml] at this; simp [HL.out] at this; omega
                  have hdef : extStep xs F (x, y) = if isShape (cornI (xs ++ [(x, y)])) then putG ltS F (cornI (xs ++ [(x, y)])) else F := by unfold extStep; simp only [hh, Bool.false_eq_true, if_false]
                  rw [hdef] at hstep
                  obtain ⟨s2, hs2⟩ : ∃ s2, cornI (xs ++ [(x, y)]) = s2 := ⟨_, rfl⟩
                  rw [hs2] at hml hstep HO9
                  have HML := Lib.hid hml
                  cases hsh : isShape s2 with
                  | true =>
                    rw [hsh, if_pos rfl] at hstep
                    have HSTEP := Lib.hid hstep
                    have HS2 := Lib.hid hsh
                    clear hstep hsh hml hs2 hdef hh
                    go_wp2_with fail
                    refine (IsShape_s E2 m2 cE2 s2 _ (Rd.of_own HO9.out) HML.out (by omega)).mono ?_
                    rw [HS2.out]
                    rintro e w8 ⟨rfl, hb8⟩
                    have HOF := Lib.hid (HO.out.below (bel_trans hb39 hb8))
                    have HOE := Lib.hid (own_keep HO9.out hb8)
                    go_wp2_with fail
                    refine (l3Put_s gD q cq hs F E2 m2 cE2 s2 w.heap.size _ HOF.out (CRow.of_own HOE.out) (fun x hx => by have := HFI2.out.len x hx; omega) (by omega) (by omega) (by have := hb9.size; have := hb8.size; omega)).mono ?_
                    rw [← HSTEP.out]
                    rintro e w9 ⟨gE, q3, c3, hs3, rfl, hO8, hb10⟩
                    have HO8 := Lib.hid hO8
                    have HFL8 : Hid ((((sidesS (p, r)).take (j + 1)).foldl (extStep xs) F0).length ≤ 4 * k + (j + 1)) := by
                      show _ ≤ _
                      rw [HSTEP.out]
                      have := putG_len (lt := ltS) F s2
                      have := HQF.out
                      omega
                    have HF8 : Hid (FineF (((sidesS (p, r)).take (j + 1)).foldl (extStep xs) F0)) := by show FineF _; rw [HSTEP.out]; exact HFI2.out.put HS2.out
                    clear hO8
                    go_wp2_with fail
                    exact ⟨⟨j + 1, gE, q3, c3, hs3, _, by omega, by go_num, rfl, rfl, HO8.out, HF8.out, HFL8.out, bel_trans hb9 (bel_trans hb8 hb10)⟩, by simp [intOf]; omega⟩
                  | false =>
                    rw [hsh] at hstep
                    have HSTEP : Hid (((sidesS (p, r)).take (j + 1)).foldl (extStep xs) F0 = F) := by show _ = F; rw [hstep]; rfl
                    have HS2 := Lib.hid hsh
                    clear hstep hsh hml hs2 hdef hh
                    go_wp2_with fail
                    refine (IsShape_s E2 m2 cE2 s2 _ (Rd.of_own HO9.out) HML.out (by omega)).mono ?_
                    rw [HS2.out]
                    rintro e w8 ⟨rfl, hb8⟩
                    go_wp2_with fail
                    exact ⟨⟨j + 1, gD, q, cq, hs, F, by omega, by go_num, rfl, HSTEP.out.symm, HO.out.below (bel_trans hb39 hb8), HFI2.out, by have := HQF.out; omega, bel_trans hb9 hb8⟩, by simp [intOf]; omega⟩
            · obtain rfl : j = 4 := by omega
              have HN : Hid (extTo sidesS xs (k + 1) = F) := by show _ = F; rw [HST.out, hF]; rfl
              rw [← HN.out] at hO
              have HO := Lib.hid hO
              clear hO hF
              go_wp2_with fail
              exact ⟨⟨k + 1, gD, q, cq, hs, by omega, by go_num, rfl, HO.out, hb⟩, by simp [intOf]; omega⟩
        · obtain rfl : k = n := by omega
          rw [← HV.out] at hO
          have HO := Lib.hid hO
          have hk1 : ¬ (k : Int) < (k : Int) := by omega
          clear hO
          go_wp2
          go_ret
          exact ⟨gD, q, cq, hs, rfl, HO.out, hb⟩
end Go.Proofs.Ytagkopemcabkpaa

/- All shapes of some cells: the reference. -/
namespace Go.Proofs.Ytagkopemcabkpaa
open Go.RowKit
set_option linter.unusedVariables false
attribute [local go_sem ↓] Go.wp_at_zero Go.wp_at_succ

theorem fix_short (k : Nat) (h : k ≤ 3) : ∀ x ∈ fixV k, x.length ≠ 8 := by
  have hf : ∀ x ∈ fixF k, x.length ≠ 8 := by
    rcases (by omega : k = 0 ∨ k = 1 ∨ k = 2 ∨ k = 3) with rfl | rfl | rfl | rfl <;> decide +kernel
  rw [fixF_eq] at hf
  exact hf
theorem extR_fix {k : Nat} (h : k ≤ 3) {t : List C} (ht : t ∈ fixV k) : extR t = extV t := by
  unfold extR
  exact if_pos ⟨(fixV_fine k).2 t ht, fix_short k h t ht⟩
theorem own_some {w : World} {base e n c : Nat} {A : Option Addr} {xs : List Value} (h : w.ownsRow base e 1 (.slice A (n + 1) c) (n + 1) xs) : ∃ g, A = some ⟨g, 0, none⟩ := by
  rcases h.2 with ⟨hv, _⟩ | ⟨g', cap, cur, hv, _⟩
  · injection hv with _ h2 _; omega
  · injection hv with h1 _ _; exact ⟨g', h1⟩
set_option maxRecDepth 100000 in
set_option maxHeartbeats 6400000 in
theorem FixedShapes_s (n : Int) (w : World) : Calls Try.prog 35 #[.int .i64 n] w (RetFA w (fixA n)) := by
  have hini : (w.alloc (.cells #[] 30)).ownsRow w.heap.size 30 1 (.slice (some ⟨w.heap.size, 0, none⟩) 0 0) 0 [] := own_new w _ 1 0 #[] rfl (by simp [maxLen]) (Nat.le_refl _)
  have HI := Lib.hid (OwnF.none_ hini)
  clear hini
  by_cases h : 1 ≤ n ∧ n ≤ 5
  · obtain ⟨n, rfl⟩ : ∃ k : Nat, n = (k : Int) := ⟨n.toNat, by omega⟩
    have HV : Hid (fixA (n : Int) = fixV (n - 1)) := by show fixA _ = _; unfold fixA; rw [if_pos h]; simp
    have hn1 : 1 ≤ n := by omega
    have hn5 : n ≤ 5 := by omega
    have HB := Lib.hid h
    clear h
    go_enter Try.func35, Try.ntmps35
    go_wp2_with fail
    refine (l1In_t (n : Int) 1 5 _ HB.out.1 HB.out.2).mono ?_
    rintro e w1 ⟨rfl, hb1⟩
    have HI1 := Lib.hid (HI.out.below hb1)
    have hbw1 : Below w.heap.size w w1 := bel_trans (bel_alloc (Below.refl _ _) _) hb1
    have hz1 := hb1.size
    simp only [World.size_alloc] at hz1
    have HRN : Hid (Rd ((w1.alloc (.cells #[.int .i64 0, .int .i64 0] 55)).alloc (.cells #[.slice (some ⟨w1.heap.size, 0, none⟩) 1 1] 30)) (some ⟨w1.heap.size + 1, 0, none⟩) (vS [(some ⟨w1.heap.size, 0, none⟩, 1, 1)])) := by
      have := rd_newS (w1.alloc (.cells #[.int .i64 0, .int .i64 0] 55)) 30 (some ⟨w1.heap.size, 0, none⟩, 1, 1)
      exact Lib.hid (by simpa [hd] using this)
    go_wp2_with (at_builtin; go_must (refine app_F _ rfl _ _ rfl w.heap.size _ 0 0 [] rfl ((HI1.out.own.alloc _).alloc _) _ _ _ [(some ⟨w1.heap.size, 0, none⟩, 1, 1)] rfl HRN.out rfl (by omega) (by simp; omega) ?_); intro A3 c3 w3 ho3 hg3 _; have HO3 := Lib.hid ho3; have HG3 := Lib.hid hg3; clear ho3 hg3)
    obtain ⟨g3, hA3⟩ := own_some HO3.out
    subst hA3
    have hbw3 : Below w.heap.size w w3 := bel_app (bel_alloc (bel_alloc hbw1 _) _) HG3.out (fun g e => (own_lt HI1.out.own g e).1)
    have hini : OwnF w.heap.size w3 (some ⟨g3, 0, none⟩) 1 c3 [(some ⟨w1.heap.size, 0, none⟩, 1, 1)] (fixV 0) := by
      refine ⟨HO3.out, rfl, fun i x f h1 h2 => ?_⟩
      have hi : i = 0 := by have := (List.getElem?_eq_some_iff.1 h1).1; simp at this; exact this
      subst hi
      simp at h1
      simp [fixV] at h2
      subst h1 h2
      have hc : CRow ((w1.alloc (.cells #[.int .i64 0, .int .i64 0] 55)).alloc (.cells #[.slice (some ⟨w1.heap.size, 0, none⟩) 1 1] 30)) (some ⟨w1.heap.size, 0, none⟩, 1, 1) [(0, 0)] :=
        CRow.of_own (by simpa [vC] using (own_new w1 55 2 1 #[.int .i64 0, .int .i64 0] rfl (by simp [maxLen]) (base := w.heap.size) hbw1.size).alloc (.cells #[.slice (some ⟨w1.heap.size, 0, none⟩) 1 1] 30))
      exact hc.grown HG3.out (fun g e r => by simp [ob] at e r; omega)
    have HI3 := Lib.hid hini
    clear hini
    go_loopw [4, 3] (fun e4 e3 wr => ∃ (k m c g : Nat) (hs : List H), 1 ≤ k ∧ k ≤ n ∧ e4 = .int .i64 k ∧ e3 = .slice (some ⟨g, 0, none⟩) m c ∧ OwnF w.heap.size wr (some ⟨g, 0, none⟩) m c hs (fixV (k - 1)) ∧ Below w.heap.size w wr) (fun e4 _ _ => n - (intOf e4).toNat)
    case atStart => exact ⟨1, 1, _, _, _, Nat.le_refl _, hn1, rfl, rfl, HI3.out, hbw3⟩
    case round =>
      clear HRN HI HI1 HO3 HG3 HI3 hbw3 hbw1 hb1 hz1
      obtain ⟨k, m, c, gA, hs, hk1, hkn, rfl, rfl, hO, hb⟩ := hrel
      obtain ⟨v, hv⟩ : ∃ v, v = wr := ⟨_, rfl⟩
      subst hv
      by_cases hlt : k < n
      · have hkI : (k : Int) < (n : Int) := by omega
        obtain ⟨k0, hk0⟩ : ∃ k0, k = k0 + 1 := ⟨k - 1, by omega⟩
        have hkk : k - 1 = k0 := by omega
        rw [hkk] at hO
        have HNX : Hid (fixV (k + 1 - 1) = growN (fixV k0) m) := by show fixV (k + 1 - 1) = _; rw [Nat.add_sub_cancel, hk0, ← hO.flen]; rfl
        have hml : m ≤ 1048576 := by have h1 := fixV_len k0; have h2 := pow32 k0 (by omega); rw [hO.flen] at h1; omega
        have hsh := (fixV_fine k0).2
        have hxr := fun t => extR_fix (k := k0) (by omega) (t := t)
        obtain ⟨F, hF⟩ : ∃ F, fixV k0 = F := ⟨_, rfl⟩
        rw [hF] at hO hsh hxr
        rw [hF] at HNX
        have HO := Lib.hid hO
        have HFL := Lib.hid hO.flen
        have HSH := Lib.hid hsh
        have HXR := Lib.hid hxr
        have HKK := Lib.hid hk0
        have hbz := hb.size
        have HN0 : Hid (OwnF v.heap.size (v.alloc (.cells #[] 30)) (some ⟨v.heap.size, 0, none⟩) 0 0 [] []) := OwnF.none_ (own_new v 30 1 0 #[] rfl (by simp [maxLen]) (Nat.le_refl _))
        clear hO hF hsh hk0 hkk hxr
        go_wp2_with fail
        go_loopw [6, 5] (fun e6 e5 wr2 => ∃ (i q cq g : Nat) (hs2 : List H), i ≤ m ∧ e6 = .int .i64 i ∧ e5 = .slice (some ⟨g, 0, none⟩) q cq ∧ OwnF v.heap.size wr2 (some ⟨g, 0, none⟩) q cq hs2 (growN F i) ∧ Below v.heap.size v wr2) (fun e6 _ _ => m - (intOf e6).toNat)
        case atStart => exact ⟨0, 0, 0, _, [], Nat.zero_le _, rfl, rfl, HN0.out, bel_alloc (Below.refl _ _) _⟩
        case round =>
          clear HN0
          obtain ⟨i, q, cq, gD, hs2, hi, rfl, rfl, hO2, hb2⟩ := hrel
          by_cases him : i < m
          · have hi0 : (0 : Int) ≤ (i : Int) := by omega
            have hi1 : (i : Int) < (m : Int) := by omega
            have hRF := (HO.out.below hb2).rd
            obtain ⟨x, t, g, off, hsx, hfx, hAe, hg, d1, hrow⟩ := hRF.at_ him
            have htsh := HSH.out t (List.mem_of_getElem? hfx)
            have hxr := HXR.out t (List.mem_of_getElem? hfx)
            have hiF : i < F.length := by rw [HFL.out]; exact him
            have hgs := growN_succ F i hiF
            rw [show F[i] = t from by rw [List.getElem?_eq_getElem hiF] at hfx; injection hfx] at hgs
            have hgl := growN_len F HSH.out i (by omega)
            have hgf := growN_fine F i (by omega)
            obtain ⟨C1, m1, k1⟩ := x
            have hl1 : t.length = m1 := hrow.1
            have hm8 : m1 ≤ 1048576 := by have := (shape_len htsh).2; omega
            obtain ⟨G0, hG0⟩ : ∃ G0, growN F i = G0 := ⟨_, rfl⟩
            rw [hG0] at hgs hgl hgf hO2
            have HL1 := Lib.hid hl1
            have HT := Lib.hid htsh
            have HROW := Lib.hid hrow
            have HGS := Lib.hid hgs
            have HGF := Lib.hid hgf
            have HO2 := Lib.hid hO2
            have HXT := Lib.hid hxr
            have hql : q ≤ 32 * i := by rw [← hO2.flen]; exact hgl
            dsimp only at d1
            cases hAe
            simp only [Nat.zero_add] at d1
            clear hsx hfx hrow htsh hgs hgf hgl hO2 hG0 hl1 hRF hxr
            go_wp2_with fail
            refine (ExtensionsOf_s C1 m1 k1 t _ HROW.out.2.1 HL1.out hm8).mono ?_
            rw [HXT.out]
            rintro e w1 ⟨gE, me, ce, hsE, rfl, hoE, hb3⟩
            have hel : me ≤ 32 := by rw [← hoE.flen]; have h1 := extV_len t; have h2 := (shape_len HT.out).2; omega
            have HRE := Lib.hid hoE.rd
            have HFE := Lib.hid hoE.flen
            have HO3 := Lib.hid (HO2.out.below hb3)
            have hb23 : Below v.heap.size v w1 := bel_trans hb2 hb3
            clear hoE HO2 HROW hb2 hb3 d1
            go_wp2_with fail
            go_loopw [8, 5] (fun e8 e5 wr3 => ∃ (j q cq g : Nat) (hs2 : List H) (G : List (List C)), j ≤ me ∧ e8 = .int .i64 j ∧ e5 = .slice (some ⟨g, 0, none⟩) q cq ∧ G = ((extV t).take j).foldl (putG ltS) G0 ∧ OwnF v.heap.size wr3 (some ⟨g, 0, none⟩) q cq hs2 G ∧ FineF G ∧ G.length ≤ 32 * i + j ∧ RdF wr3 (some ⟨gE, 0, none⟩) me hsE (extV t) ∧ Below v.heap.size v wr3) (fun e8 _ _ => me - (intOf e8).toNat)
            case atStart => exact ⟨0, q, cq, gD, hs2, G0, Nat.zero_le _, rfl, rfl, rfl, HO3.out, HGF.out, by rw [HO3.out.flen]; omega, HRE.out, hb23⟩
            case round =>
              clear HO3 HRE hb23 hg
              obtain ⟨j, q, cq, gD, hs2, G, hj, rfl, rfl, hG, hO, hfi, hgl, hre, hb3⟩ := hrel
              by_cases hjm : j < me
              · have hj0 : (0 : Int) ≤ (j : Int) := by omega
                have hj1 : (j : Int) < (me : Int) := by omega
                obtain ⟨x, s2, g2, o2, hsx, hfx, hEe, hg2, d1, hrow⟩ := hre.at_ hjm
                have hs2sh := (extTo_fine sidesV t t.length).2 s2 (List.mem_of_getElem? hfx)
                have hjE : j < (extV t).length := by rw [HFE.out]; exact hjm
                have hstep : ((extV t).take (j + 1)).foldl (putG ltS) G0 = putG ltS G s2 := by
                  rw [List.take_succ_eq_append_getElem hjE, List.foldl_append, ← hG, show (extV t)[j] = s2 from by rw [List.getElem?_eq_getElem hjE] at hfx; injection hfx]
                  rfl
                obtain ⟨B, m2, k2⟩ := x
                have hl2 : s2.length = m2 := hrow.1
                have hm28 : m2 ≤ 8 := by have := (shape_len hs2sh).2; omega
                have hqG : q ≤ 32 * i + j := by rw [← hO.flen]; exact hgl
                have HQL := Lib.hid hO.flen
                have HO := Lib.hid hO
                have HFI := Lib.hid hfi
                have HRE := Lib.hid hre
                have HROW := Lib.hid hrow
                have HS2 := Lib.hid hs2sh
                have HST := Lib.hid hstep
                dsimp only at d1
                cases hEe
                simp only [Nat.zero_add] at d1
                clear hG hO hfi hre hsx hfx hrow hs2sh hstep hl2 hgl
                go_wp2_with fail
                refine (l3Put_s gD q cq hs2 G B m2 k2 s2 v.heap.size _ HO.out HROW.out (fun x hx => by have := HFI.out.len x hx; omega) (by omega) (by omega) hb3.size).mono ?_
                rw [← HST.out]
                rintro e w8 ⟨g3, q3, c3, hs3, rfl, hO8, hb8⟩
                have HO8 := Lib.hid hO8
                have hq8 : q3 ≤ 32 * i + (j + 1) := by
                  rw [← hO8.flen, HST.out]
                  have := putG_len (lt := ltS) G s2
                  have := HQL.out
                  omega
                have HFL8 : Hid ((((extV t).take (j + 1)).foldl (putG ltS) G0).length ≤ 32 * i + (j + 1)) := by show _ ≤ _; rw [hO8.flen]; exact hq8
                have HRE8 := Lib.hid (HRE.out.below hb8)
                have HF8 : Hid (FineF (((extV t).take (j + 1)).foldl (putG ltS) G0)) := by show FineF _; rw [HST.out]; exact HFI.out.put HS2.out
                have HB8 := Lib.hid (bel_trans hb3 hb8)
                clear hO8 hb8
                go_wp2_with fail
                exact ⟨⟨j + 1, q3, c3, g3, hs3, _, by omega, by go_num, rfl, rfl, HO8.out, HF8.out, HFL8.out, HRE8.out, HB8.out⟩, by simp [intOf]; omega⟩
              · obtain rfl : j = me := by omega
                have hGe : growN F (i + 1) = G := by rw [HGS.out, hG, List.take_of_length_le (by rw [HFE.out]; omega)]
                rw [← hGe] at hO
                have HO := Lib.hid hO
                have hj1 : ¬ (j : Int) < (j : Int) := by omega
                clear hO hG hGe hre
                go_wp2_with fail
                exact ⟨⟨i + 1, q, cq, gD, hs2, by omega, by go_num, rfl, HO.out, hb3⟩, by simp [intOf]; omega⟩
          · obtain rfl : i = m := by omega
            rw [← HNX.out] at hO2
            have HO2 := Lib.hid (hO2.mono hbz)
            have hi1 : ¬ (i : Int) < (i : Int) := by omega
            clear hO2
            go_wp2_with fail
            exact ⟨⟨k + 1, q, cq, gD, hs2, by omega, by omega, by go_num, rfl, HO2.out, bel_trans hb hb2⟩, by simp [intOf]; omega⟩
      · obtain rfl : k = n := by omega
        rw [← HV.out] at hO
        have HO := Lib.hid hO
        have hkI : ¬ (k : Int) < (k : Int) := by omega
        clear hO
        go_wp2_with fail
        go_ret
        exact ⟨gA, m, c, hs, rfl, HO.out, hb⟩
  · have HV : Hid (fixA n = []) := by show fixA n = _; unfold fixA; rw [if_neg h]
    have HB := Lib.hid h
    clear h
    go_enter Try.func35, Try.ntmps35
    go_wp2_with fail
    refine (l1In_f n 1 5 _ HB.out).mono ?_
    rintro e w1 ⟨rfl, hb1⟩
    have HI1 := Lib.hid (HI.out.below hb1)
    go_wp2_with fail
    go_ret
    exact ⟨w.heap.size, 0, 0, [], rfl, by rw [HV.out]; exact HI1.out, bel_trans (bel_alloc (Below.refl _ _) _) hb1⟩
end Go.Proofs.Ytagkopemcabkpaa

/- Shapes counted by growth: the reference. -/
namespace Go.Proofs.Ytagkopemcabkpaa
open Go.RowKit
set_option linter.unusedVariables false
attribute [local go_sem ↓] Go.wp_at_zero Go.wp_at_succ

theorem run_uptoG (w : World) (A : Option Addr) (m c k : Nat) (hk : k ≤ c) (hA : 0 < m → ∃ g o, A = some ⟨g, o, none⟩) (hm : 0 < m) : (Instr.slice 30 (.slice A m c) none (some (.int .i64 (k : Int))) none).run Try.prog w = .ok (.slice A k c) w := by
  obtain ⟨g, o, rfl⟩ := hA hm
  have h2 : (k : Int) ≤ (c : Int) := by omega
  simp [go_sem, h2]
theorem own_lit (w : World) {base : Nat} (h : base ≤ w.heap.size) : (w.alloc (.cells #[] 55)).ownsRow base 55 2 (.slice (some ⟨w.heap.size, 0, none⟩) 0 0) 0 (vC []) := own_new w _ 2 0 #[] rfl (by simp [maxLen]) h
theorem own_kept3 {w w' : World} {base e size n c : Nat} {A : Option Addr} {xs : List Value} {X : Option Addr} (h : w.ownsRow base e size (.slice A n c) n xs) (hg : w.grownBy w' (ob X)) (hn : ∀ g, ob A = some g → ob X ≠ some g) : w'.ownsRow base e size (.slice A n c) n xs :=
  h.kept hg (by
    rw [ownBlock_slice]
    cases hA : ob A with
    | none => exact .inl rfl
    | some g => right; intro e; exact hn g hA e.symm)
theorem own_ext {w w' : World} {o : Obj} (h : (w.alloc o).grownBy w' (ob (some ⟨w.heap.size, 0, none⟩))) : Below w.heap.size w w' :=
  ⟨h.os, h.tape, h.output, by have := h.size; simp at this; omega, fun k hk => (h.block k (by simp; omega) (by simp [ob]; omega)).trans (Below.heap_alloc w o k hk)⟩
theorem own_cap2 {w : World} {base e n c : Nat} {A : Option Addr} {xs : List Value} (h : w.ownsRow base e 2 (.slice A n c) n xs) : n ≤ c ∧ c ≤ 9223372036854775807 := by
  rcases h.2 with ⟨hv, rfl⟩ | ⟨g', cap, cur, hv, _, _, h1, h2, _⟩
  · injection hv with _ _ h3; omega
  · injection hv with _ _ h3
    unfold maxLen at h2
    omega
/-- The length of a slice. -/
def lenOf1 (v : Value) : Nat := match v with
  | .slice _ n _ => n
  | _ => 0
set_option maxRecDepth 100000 in
set_option maxHeartbeats 6400000 in
theorem l25Grow_s : ∀ (l : Nat) (A : Option Addr) (n c : Nat) (u : List C) (B : Option Addr) (m d : Nat) (s : List C) (w : World) (hr : Rd w A (vC u)) (hr2 : Rd w B (vC s)) (hl : u.length = n) (hl2 : s.length = m) (hnc : n ≤ c) (hc : c ≤ 9223372036854775807)
    (hb1 : n + 4 * l ≤ 24) (hb2 : m + 4 * l ≤ 100) (hu : ∀ x ∈ u, near0 (20 - l) x) (hs : ∀ x ∈ s, near0 (20 - l) x) (hl5 : l ≤ 5),
    Calls Try.prog 74 #[.int .i64 ((l + 1 : Nat) : Int), .slice A n c, .slice B m d] w (Ret w (.int .i64 (growC l u s : Nat))) := by
  intro l
  induction l with
  | zero =>
    intro A n c u B m d s w hr hr2 hl hl2 hnc hc hb1 hb2 hu hs hl5
    have HL := Lib.hid hl
    have HV : Hid (growC 0 u s = n) := hl
    have hr' := Lib.hid hr
    clear hr2 hl hl2 hu hs
    go_enter Try.func74, Try.ntmps74
    go_wp2
    go_loopw [1, 7] (fun e1 e7 wr => ∃ (k a : Nat), k ≤ n ∧ e1 = .slice A k c ∧ e7 = .int .i64 a ∧ a + k = n ∧ Below w.heap.size w wr) (fun e1 _ _ => (lenOf1 e1))
    case atStart => exact ⟨n, 0, Nat.le_refl _, rfl, rfl, by omega, Below.refl _ _⟩
    case round =>
      obtain ⟨k, a, hk, rfl, rfl, ha, hb⟩ := hrel
      by_cases hk0 : 0 < k
      · obtain ⟨j, hj⟩ : ∃ j, k = j + 1 := ⟨k - 1, by omega⟩
        have hjl : j < u.length := by rw [HL.out]; omega
        obtain ⟨g, off, hA, hg, d1, d2⟩ := RdC.at_ (hr'.out.below hb) hjl
        subst hA
        obtain ⟨x, hx⟩ : ∃ x, u[j].1 = x := ⟨_, rfl⟩
        obtain ⟨y, hy⟩ : ∃ y, u[j].2 = y := ⟨_, rfl⟩
        rw [hx] at d1
        rw [hy] at d2
        have hj1 : (k : Int) - 1 = (j : Int) := by omega
        have hjw : IntKind.i64.wrap (j : Int) = (j : Int) := Go.IntWalk.i64_in _ (by omega)
        have hj0 : (0 : Int) ≤ (j : Int) := by omega
        have hjk : (j : Int) < (k : Int) := by omega
        have hsl : ∀ w', (Instr.slice 30 (.slice (some ⟨g, off, none⟩) k c) none (some (.int .i64 (j : Int))) none).run Try.prog w' = .ok (.slice (some ⟨g, off, none⟩) j c) w' := fun w' => run_uptoG w' _ k c j (by omega) (fun _ => ⟨_, _, rfl⟩) hk0
        have haw : IntKind.i64.wrap ((a : Int) + 1) = (a : Int) + 1 := Go.IntWalk.i64_in _ (by omega)
        have HJ := Lib.hid hj
        clear hx hy hj
        go_wp2_with fail
        exact ⟨⟨j, a + 1, by omega, rfl, by go_num, by have := HJ.out; omega, bel_alloc hb _⟩, by simp [lenOf1]; have := HJ.out; omega⟩
      · obtain rfl : k = 0 := by omega
        have HN : Hid (a = n) := by show a = n; omega
        clear hk0
        go_wp2
        go_ret
        exact ⟨by rw [HV.out, ← HN.out]; rfl, hb⟩
  | succ l ih =>
    intro A n c u B m d s w hr hr2 hl hl2 hnc hc hb1 hb2 hu hs hl5
    obtain ⟨q, hq⟩ : ∃ q : Nat, l + 1 + 1 = q := ⟨_, rfl⟩
    obtain ⟨p, hp⟩ : ∃ p : Nat, l + 1 = p := ⟨_, rfl⟩
    have hqp : (q : Int) - 1 = (p : Int) := by omega
    have hpw : IntKind.i64.wrap (p : Int) = (p : Int) := Go.IntWalk.i64_in _ (by omega)
    have hq1 : ((q : Int) == 1) = false := by rw [beq_eq_false_iff_ne]; omega
    have HIH := Lib.hid ih
    have HP := Lib.hid hp
    have HL := Lib.hid hl
    have HL2 := Lib.hid hl2
    have HR := Lib.hid hr
    have HR2 := Lib.hid hr2
    have HU := Lib.hid hu
    have HS := Lib.hid hs
    have hgle := growC_le (l + 1) u s (by omega)
    have h25 : 25 ^ (l + 1 + 1) ≤ 244140625 := by
      have : 25 ^ (l + 1 + 1) ≤ 25 ^ 6 := Nat.pow_le_pow_right (by omega) (by omega)
      simpa using this
    have htot : growK (l + 1) u s n = growC (l + 1) u s := by rw [← hl]; exact growK_all _ _ _
    obtain ⟨tot, htt⟩ : ∃ tot, growC (l + 1) u s = tot := ⟨_, rfl⟩
    rw [htt] at hgle htot
    have HT := Lib.hid htt
    have HTOT := Lib.hid htot
    have htb : tot ≤ 244140625 := by omega
    have hmm100 : m ≤ 100 := by omega
    rw [hq]
    clear ih hl hl2 hr hr2 hu hs hp hq hgle h25 htot htt
    go_enter Try.func74, Try.ntmps74
    go_wp2
    go_loopw [1, 7] (fun e1 e7 wr => ∃ (k a : Nat), k ≤ n ∧ e1 = .slice A k c ∧ e7 = .int .i64 a ∧ a + growK (l + 1) u s k = tot ∧ Below w.heap.size w wr) (fun e1 _ _ => (lenOf1 e1))
    case atStart => exact ⟨n, 0, Nat.le_refl _, rfl, rfl, by rw [Nat.zero_add]; exact HTOT.out, Below.refl _ _⟩
    case round =>
      obtain ⟨k, a, hk, rfl, rfl, ha, hb⟩ := hrel
      obtain ⟨v, hv⟩ : ∃ v, v = wr := ⟨_, rfl⟩
      subst hv
      have HA := Lib.hid ha
      clear ha
      by_cases hk0 : 0 < k
      · obtain ⟨j, hj⟩ : ∃ j, k = j + 1 := ⟨k - 1, by omega⟩
        have hjl : j < u.length := by rw [HL.out]; omega
        obtain ⟨g, off, hA, hg, d1, d2⟩ := RdC.at_ (HR.out.below hb) hjl
        subst hA
        have hgs := growK_succ (l + 1) u s j
        have htm : termC (l + 1) u s j = 1 + growC l (more4 (u.getD j default) (u.take j) s 4).1 (more4 (u.getD j default) (u.take j) s 4).2 := rfl
        have hnx := HU.out _ (List.getElem_mem hjl)
        obtain ⟨px, hx⟩ : ∃ x, u[j].1 = x := ⟨_, rfl⟩
        obtain ⟨py, hy⟩ : ∃ y, u[j].2 = y := ⟨_, rfl⟩
        have hxy : u[j] = (px, py) := Prod.ext hx hy
        rw [hx] at d1
        rw [hy] at d2
        rw [hxy] at hnx
        rw [getD_in u hjl, hxy] at htm
        rw [htm] at hgs
        have hj1 : (k : Int) - 1 = (j : Int) := by omega
        have hjw : IntKind.i64.wrap (j : Int) = (j : Int) := Go.IntWalk.i64_in _ (by omega)
        have hj0 : (0 : Int) ≤ (j : Int) := by omega
        have hjk : (j : Int) < (k : Int) := by omega
        have hsl : ∀ w', (Instr.slice 30 (.slice (some ⟨g, off, none⟩) k c) none (some (.int .i64 (j : Int))) none).run Try.prog w' = .ok (.slice (some ⟨g, off, none⟩) j c) w' := fun w' => run_uptoG w' _ k c j (by omega) (fun _ => ⟨_, _, rfl⟩) hk0
        have hat : a < tot := by have h1 := HA.out; rw [hj, hgs] at h1; omega
        have haw : IntKind.i64.wrap ((a : Int) + 1) = (a : Int) + 1 := Go.IntWalk.i64_in _ (by omega)
        have hml4 := more4_len (px, py) (u.take j) s
        have hmn4 := more4_near hnx (a := u.take j) (b := s) (fun c hc => by have := HU.out c (List.mem_of_mem_take hc); unfold near0 at this ⊢; omega) (fun c hc => by have := HS.out c hc; unfold near0 at this ⊢; omega)
        have HJ := Lib.hid hj
        have HGS := Lib.hid hgs
        have HM4 := Lib.hid hml4
        have HN4 := Lib.hid hmn4
        have HNX := Lib.hid hnx
        have HRT : Hid (Rd v (some ⟨g, off, none⟩) (vC (u.take j))) := by show Rd _ _ _; rw [vC_take]; exact Rd.take (HR.out.below hb) _
        have HTL : Hid ((u.take j).length = j) := by show _ = j; rw [List.length_take]; omega
        have HR2v := Lib.hid (HR2.out.below hb)
        have hvz := hb.size
        have HLIT : Hid (((v.alloc (.cells #[.int .i64 px, .int .i64 py] 55)).alloc (.cells #[] 55)).ownsRow (v.heap.size + 1) 55 2 (.slice (some ⟨v.heap.size + 1, 0, none⟩) 0 0) 0 (vC [])) := by
          have := own_lit (v.alloc (.cells #[.int .i64 px, .int .i64 py] 55)) (base := v.heap.size + 1) (by simp)
          exact Lib.hid (by simpa using this)
        clear hx hy hxy hj hgs htm hml4 hmn4 hnx
        go_wp2_with (at_builtin; first
          | (refine app_C _ rfl _ _ rfl (v.heap.size + 1) _ 0 0 [] rfl HLIT.out _ _ _ (u.take j) rfl (HRT.out.below (bel_alloc (bel_alloc (Below.refl _ _) _) _)) HTL.out (by omega) (by simp <;> omega) ?_; intro M cm w2 ho2 hg2 hat2; simp only [Nat.zero_add, List.nil_append] at ho2; have HM := Lib.hid ho2; have HX2 : Hid (Below v.heap.size v w2) := bel_app (bel_alloc (bel_alloc (Below.refl _ _) _) _) hg2 (fun g h => by simp [ob] at h; omega); have HBX2 := Lib.hid (((Blk.new v 55 #[.int .i64 px, .int .i64 py]).alloc (.cells #[] 55)).grown hg2 (by simp [ob])); have HML := Lib.hid (own_lt ho2); have hz2 := hg2.size; clear ho2 hg2 hat2)
          | (refine app_C _ rfl _ _ rfl (v.heap.size + 1) _ 0 0 [] rfl (own_lit _ (by (try simp at hz2); (try simp); omega)) _ _ _ s rfl (HR2v.out.below (bel_alloc HX2.out _)) HL2.out (by omega) (by (try simp at hz2); (try simp); omega) ?_; intro K ck w3 ho3 hg3 hat3; simp only [Nat.zero_add, List.nil_append] at ho3; have HK := Lib.hid ho3; have HG3 := Lib.hid hg3; have HAT3 := Lib.hid hat3; clear ho3 hg3 hat3))
        (try simp only [World.size_alloc] at hz2)
        have hM3 := own_keep HM.out (own_ext HG3.out)
        have HSEP : Hid (∀ g, ob M = some g → ob K ≠ some g) := fun g e r => by
          have h1 := (HML.out g e).2
          rcases HAT3.out with h | h
          · rw [h] at r; simp [ob] at r; omega
          · rw [h] at r; simp at r; omega
        have HM3 := Lib.hid hM3
        have HBX3 := Lib.hid ((HBX2.out.alloc (.cells #[] 55)).grown HG3.out (by simp [ob]; omega))
        have HBI3 : Hid (Below w.heap.size w w3) := bel_trans hb (bel_trans HX2.out (own_ext HG3.out))
        clear hM3
        go_loopw [11, 9, 10] (fun e11 e9 e10 wr2 => ∃ (i mm cm : Nat) (M : Option Addr) (mk ck : Nat) (K : Option Addr) (ml kl : List C), i ≤ 4 ∧ e11 = .int .i64 i ∧ e9 = .slice M mm cm ∧ e10 = .slice K mk ck ∧ more4 (px, py) (u.take j) s i = (ml, kl) ∧
            wr2.ownsRow (v.heap.size + 1) 55 2 (.slice M mm cm) mm (vC ml) ∧ wr2.ownsRow (v.heap.size + 1) 55 2 (.slice K mk ck) mk (vC kl) ∧ (∀ g, ob M = some g → ob K ≠ some g) ∧ Blk wr2 v.heap.size 55 #[.int .i64 px, .int .i64 py] ∧ Below w.heap.size w wr2) (fun e11 _ _ _ => 4 - (intOf e11).toNat)
        case atStart => exact ⟨0, j, cm, M, m, ck, K, u.take j, s, Nat.zero_le _, rfl, rfl, rfl, rfl, HM3.out, HK.out, HSEP.out, HBX3.out, HBI3.out⟩
        case round =>
          clear HM HX2 HBX2 HML HK HG3 HAT3 hz2 HSEP HM3 HBX3 HBI3 d1 d2 hg hsl HLIT HR2v
          obtain ⟨i, mm, cm, M, mk, ck, K, ml, kl, hi4, rfl, rfl, rfl, hmk, hM, hK, hsep, hBX, hbi⟩ := hrel
          have hmll : ml.length = mm := by have := own_len hM; rw [vC_length] at this; omega
          have hkll : kl.length = mk := by have := own_len hK; rw [vC_length] at this; omega
          have hlen4 := HM4.out i hi4
          rw [hmk] at hlen4
          have hmmb : mm ≤ j + i := by have := hlen4.1; rw [HTL.out] at this; simp only at this; omega
          have hmkb : mk ≤ m + i := by have := hlen4.2; rw [HL2.out] at this; simp only at this; omega
          have hjn : j + 1 ≤ n := by have := HJ.out; omega
          have HKL := Lib.hid hkll
          have HMLL := Lib.hid hmll
          have HMK := Lib.hid hmk
          have HOM := Lib.hid hM
          have HOK2 := Lib.hid hK
          have HSEP := Lib.hid hsep
          have HBX := Lib.hid hBX
          clear hmll hkll hlen4 hM hK hsep
          by_cases hlt4 : i < 4
          · have hi0 : (0 : Int) ≤ (i : Int) := by omega
            have hi1 : (i : Int) < 4 := by omega
            have x0 : wr.cell? ⟨v.heap.size, 0, none⟩ = some (.int .i64 px) := by simpa using hBX.cell 0
            have x1 : wr.cell? ⟨v.heap.size, 1, none⟩ = some (.int .i64 py) := by simpa using hBX.cell 1
            have xl := hBX.lt
            have hstep := more4_succ (px, py) (u.take j) s i hlt4
            rw [hmk] at hstep
            obtain ⟨da, db, e1, e2, hd1, hd2, hab⟩ : ∃ da db : Int, ((1 : Int) - (i : Int)).tmod 2 = da ∧ ((2 : Int) - (i : Int)).tmod 2 = db ∧ (-1 ≤ da ∧ da ≤ 1) ∧ (-1 ≤ db ∧ db ≤ 1) ∧ (sidesS (px, py)).getD i default = (px + da, py + db) := by
              rcases (by omega : i = 0 ∨ i = 1 ∨ i = 2 ∨ i = 3) with rfl | rfl | rfl | rfl
              · exact ⟨1, 0, by decide, by decide, by omega, by omega, by simp [sidesS]⟩
              · exact ⟨0, 1, by decide, by decide, by omega, by omega, by simp [sidesS]⟩
              · exact ⟨-1, 0, by decide, by decide, by omega, by omega, by simp [sidesS]; omega⟩
              · exact ⟨0, -1, by decide, by decide, by omega, by omega, by simp [sidesS]; omega⟩
            rw [hab] at hstep
            have hnear := HNX.out
            unfold near0 at hnear
            simp only at hnear
            obtain ⟨a0, ha0⟩ : ∃ a0, px + da = a0 := ⟨_, rfl⟩
            obtain ⟨b, hbb⟩ : ∃ b, py + db = b := ⟨_, rfl⟩
            rw [ha0, hbb] at hstep
            have w1 : IntKind.i64.wrap ((1 : Int) - (i : Int)) = (1 : Int) - (i : Int) := Go.IntWalk.i64_in _ (by omega)
            have w2 : IntKind.i64.wrap ((2 : Int) - (i : Int)) = (2 : Int) - (i : Int) := Go.IntWalk.i64_in _ (by omega)
            have w3 : IntKind.i64.wrap a0 = a0 := Go.IntWalk.i64_in _ (by omega)
            have w4 : IntKind.i64.wrap b = b := Go.IntWalk.i64_in _ (by omega)
            have w5 : IntKind.i64.wrap da = da := Go.IntWalk.i64_in _ (by omega)
            have w6 : IntKind.i64.wrap db = db := Go.IntWalk.i64_in _ (by omega)
            have HSTEP := Lib.hid hstep
            clear hstep hab hnear hd1 hd2 hBX hmk
            cases hokb : okY (a0, b) with
            | true =>
              have HOK := Lib.hid hokb
              have hok : b > 0 ∨ b = 0 ∧ a0 ≥ 0 := by unfold okY at hokb; simp at hokb; omega
              clear hokb
              rcases hok with hok | hok
              · have hbp : b > 0 := hok
                cases hh : hasC kl a0 b with
                | true =>
                  have HST2 : Hid (more4 (px, py) (u.take j) s (i + 1) = (ml, kl)) := by show _ = _; rw [HSTEP.out]; unfold stepM; simp only [HOK.out, hh]; rfl
                  have HH := Lib.hid hh
                  clear hh
                  go_wp2_with fail
                  refine (HasCell_s K mk ck kl a0 b _ ((Rd.of_own HOK2.out).alloc _) HKL.out (by omega)).mono ?_
                  rw [show hasC kl a0 b = true from HH.out]
                  rintro e w4 ⟨rfl, hb4⟩
                  have hx4 := bel_trans (bel_alloc (Below.refl _ _) _) hb4
                  go_wp2_with fail
                  exact ⟨⟨i + 1, mm, cm, M, mk, ck, K, ml, kl, by omega, by go_num, rfl, rfl, HST2.out, own_keep HOM.out hx4, own_keep HOK2.out hx4, HSEP.out, HBX.out.below hx4, bel_trans hbi hx4⟩, by simp [intOf]; omega⟩
                | false =>
                  have HST2 : Hid (more4 (px, py) (u.take j) s (i + 1) = (ml ++ [(a0, b)], kl ++ [(a0, b)])) := by show _ = _; rw [HSTEP.out]; unfold stepM; simp only [HOK.out, hh]; rfl
                  have HH := Lib.hid hh
                  clear hh
                  go_wp2_with fail
                  refine (HasCell_s K mk ck kl a0 b _ ((Rd.of_own HOK2.out).alloc _) HKL.out (by omega)).mono ?_
                  rw [show hasC kl a0 b = false from HH.out]
                  rintro e w4 ⟨rfl, hb4⟩
                  have hx4 := bel_trans (bel_alloc (Below.refl _ _) _) hb4
                  have hB4 := (Blk.new wr 55 #[.int .i64 a0, .int .i64 b]).below hb4
                  have y0 : w4.cell? ⟨wr.heap.size, 0, none⟩ = some (.int .i64 a0) := by simpa using hB4.cell 0
                  have y1 : w4.cell? ⟨wr.heap.size, 1, none⟩ = some (.int .i64 b) := by simpa using hB4.cell 1
                  have yl := hB4.lt
                  have HB4 := Lib.hid hB4
                  have HOM4 := Lib.hid (own_keep HOM.out hx4)
                  have HOK4 := Lib.hid (own_keep HOK2.out hx4)
                  have hz4 := hx4.size
                  have HML2 := Lib.hid (fun g (e : ob M = some g) => (own_lt HOM.out g e))
                  have HKL2 := Lib.hid (fun g (e : ob K = some g) => (own_lt HOK2.out g e))
                  clear hB4
                  go_wp2_with (at_builtin; first
                    | (refine app_C _ rfl _ _ rfl (v.heap.size + 1) M mm cm ml rfl (HOM4.out.alloc _) _ _ _ [(a0, b)] rfl (rd_newC _ _ _ _) rfl (by omega) (by simp <;> omega) ?_; intro M2 cm2 w5 ho5 hg5 hat5; have HO5 := Lib.hid ho5; have HG5 := Lib.hid hg5; have HAT5 := Lib.hid hat5; have hB5 := (HB4.out.alloc (.cells #[.int .i64 a0, .int .i64 b] 55)).grown hg5 (fun e => by have := (HML2.out _ e.symm).2; omega); have z0 : w5.cell? ⟨wr.heap.size, 0, none⟩ = some (.int .i64 a0) := (by simpa using hB5.cell 0); have z1 : w5.cell? ⟨wr.heap.size, 1, none⟩ = some (.int .i64 b) := (by simpa using hB5.cell 1); have zl := hB5.lt; have hz5 := hg5.size; have HK5 := Lib.hid (own_kept3 (HOK4.out.alloc (.cells #[.int .i64 a0, .int .i64 b] 55)) hg5 (fun g e r => HSEP.out g r e)); have HBX5 := Lib.hid (((HBX.out.below hx4).alloc (.cells #[.int .i64 a0, .int .i64 b] 55)).grown hg5 (fun e => by have := (HML2.out _ e.symm).1; omega)); have HBI5 : Hid (Below w.heap.size w w5) := bel_app (bel_alloc (bel_trans hbi hx4) _) hg5 (fun g e => by have := (HML2.out g e).1; omega); clear ho5 hg5 hat5 hB5 y0 y1 yl)
                    | (refine app_C _ rfl _ _ rfl (v.heap.size + 1) K mk ck kl rfl (HK5.out.alloc _) _ _ _ [(a0, b)] rfl (rd_newC _ _ _ _) rfl (by omega) (by (try simp at hz5); (try simp); omega) ?_; intro K2 ck2 w6 ho6 hg6 hat6; have HO6 := Lib.hid ho6; have HG6 := Lib.hid hg6; have HAT6 := Lib.hid hat6; clear ho6 hg6 hat6))
                  (try simp only [World.size_alloc] at hz5)
                  have HSEP5 : Hid (∀ g, ob M2 = some g → ob K ≠ some g) := fun g e r => by
                    rcases HAT5.out with h | h
                    · exact HSEP.out g (h ▸ e) r
                    · rw [h] at e
                      simp only [World.size_alloc, Option.some.injEq] at e
                      have := (HKL2.out g r).2
                      omega
                  have HM6 := Lib.hid (own_kept3 (HO5.out.alloc (.cells #[.int .i64 a0, .int .i64 b] 55)) HG6.out (fun g e r => HSEP5.out g e r))
                  have HSEP6 : Hid (∀ g, ob M2 = some g → ob K2 ≠ some g) := fun g e r => by
                    rcases HAT6.out with h | h
                    · exact HSEP5.out g e (h ▸ r)
                    · rw [h] at r
                      simp only [World.size_alloc, Option.some.injEq] at r
                      have := (own_lt HO5.out g e).2
                      omega
                  have HBX6 := Lib.hid ((HBX5.out.alloc (.cells #[.int .i64 a0, .int .i64 b] 55)).grown HG6.out (fun e => by have := (HKL2.out _ e.symm).1; omega))
                  have HBI6 : Hid (Below w.heap.size w w6) := bel_app (bel_alloc HBI5.out _) HG6.out (fun g e => by have := (HKL2.out g e).1; omega)
                  exact ⟨⟨i + 1, mm + 1, cm2, M2, mk + 1, ck2, K2, ml ++ [(a0, b)], kl ++ [(a0, b)], by omega, by go_num, rfl, rfl, HST2.out, HM6.out, HO6.out, HSEP6.out, HBX6.out, HBI6.out⟩, by simp [intOf]; omega⟩
              · obtain ⟨hb0, ha0⟩ := hok
                have hbp : decide (b > 0) = false := by simp; omega
                have hbe : (b == 0) = true := by rw [beq_iff_eq]; exact hb0
                have hbz : b = 0 := hb0
                have hap : a0 ≥ 0 := ha0
                clear hb0 ha0 hbz
                cases hh : hasC kl a0 b with
                | true =>
                  have HST2 : Hid (more4 (px, py) (u.take j) s (i + 1) = (ml, kl)) := by show _ = _; rw [HSTEP.out]; unfold stepM; simp only [HOK.out, hh]; rfl
                  have HH := Lib.hid hh
                  clear hh
                  go_wp2_with fail
                  refine (HasCell_s K mk ck kl a0 b _ ((Rd.of_own HOK2.out).alloc _) HKL.out (by omega)).mono ?_
                  rw [show hasC kl a0 b = true from HH.out]
                  rintro e w4 ⟨rfl, hb4⟩
                  have hx4 := bel_trans (bel_alloc (Below.refl _ _) _) hb4
                  go_wp2_with fail
                  exact ⟨⟨i + 1, mm, cm, M, mk, ck, K, ml, kl, by omega, by go_num, rfl, rfl, HST2.out, own_keep HOM.out hx4, own_keep HOK2.out hx4, HSEP.out, HBX.out.below hx4, bel_trans hbi hx4⟩, by simp [intOf]; omega⟩
                | false =>
                  have HST2 : Hid (more4 (px, py) (u.take j) s (i + 1) = (ml ++ [(a0, b)], kl ++ [(a0, b)])) := by show _ = _; rw [HSTEP.out]; unfold stepM; simp only [HOK.out, hh]; rfl
                  have HH := Lib.hid hh
                  clear hh
                  go_wp2_with fail
                  refine (HasCell_s K mk ck kl a0 b _ ((Rd.of_own HOK2.out).alloc _) HKL.out (by omega)).mono ?_
                  rw [show hasC kl a0 b = false from HH.out]
                  rintro e w4 ⟨rfl, hb4⟩
                  have hx4 := bel_trans (bel_alloc (Below.refl _ _) _) hb4
                  have hB4 := (Blk.new wr 55 #[.int .i64 a0, .int .i64 b]).below hb4
                  have y0 : w4.cell? ⟨wr.heap.size, 0, none⟩ = some (.int .i64 a0) := by simpa using hB4.cell 0
                  have y1 : w4.cell? ⟨wr.heap.size, 1, none⟩ = some (.int .i64 b) := by simpa using hB4.cell 1
                  have yl := hB4.lt
                  have HB4 := Lib.hid hB4
                  have HOM4 := Lib.hid (own_keep HOM.out hx4)
                  have HOK4 := Lib.hid (own_keep HOK2.out hx4)
                  have hz4 := hx4.size
                  have HML2 := Lib.hid (fun g (e : ob M = some g) => (own_lt HOM.out g e))
                  have HKL2 := Lib.hid (fun g (e : ob K = some g) => (own_lt HOK2.out g e))
                  clear hB4
                  go_wp2_with (at_builtin; first
                    | (refine app_C _ rfl _ _ rfl (v.heap.size + 1) M mm cm ml rfl (HOM4.out.alloc _) _ _ _ [(a0, b)] rfl (rd_newC _ _ _ _) rfl (by omega) (by simp <;> omega) ?_; intro M2 cm2 w5 ho5 hg5 hat5; have HO5 := Lib.hid ho5; have HG5 := Lib.hid hg5; have HAT5 := Lib.hid hat5; have hB5 := (HB4.out.alloc (.cells #[.int .i64 a0, .int .i64 b] 55)).grown hg5 (fun e => by have := (HML2.out _ e.symm).2; omega); have z0 : w5.cell? ⟨wr.heap.size, 0, none⟩ = some (.int .i64 a0) := (by simpa using hB5.cell 0); have z1 : w5.cell? ⟨wr.heap.size, 1, none⟩ = some (.int .i64 b) := (by simpa using hB5.cell 1); have zl := hB5.lt; have hz5 := hg5.size; have HK5 := Lib.hid (own_kept3 (HOK4.out.alloc (.cells #[.int .i64 a0, .int .i64 b] 55)) hg5 (fun g e r => HSEP.out g r e)); have HBX5 := Lib.hid (((HBX.out.below hx4).alloc (.cells #[.int .i64 a0, .int .i64 b] 55)).grown hg5 (fun e => by have := (HML2.out _ e.symm).1; omega)); have HBI5 : Hid (Below w.heap.size w w5) := bel_app (bel_alloc (bel_trans hbi hx4) _) hg5 (fun g e => by have := (HML2.out g e).1; omega); clear ho5 hg5 hat5 hB5 y0 y1 yl)
                    | (refine app_C _ rfl _ _ rfl (v.heap.size + 1) K mk ck kl rfl (HK5.out.alloc _) _ _ _ [(a0, b)] rfl (rd_newC _ _ _ _) rfl (by omega) (by (try simp at hz5); (try simp); omega) ?_; intro K2 ck2 w6 ho6 hg6 hat6; have HO6 := Lib.hid ho6; have HG6 := Lib.hid hg6; have HAT6 := Lib.hid hat6; clear ho6 hg6 hat6))
                  (try simp only [World.size_alloc] at hz5)
                  have HSEP5 : Hid (∀ g, ob M2 = some g → ob K ≠ some g) := fun g e r => by
                    rcases HAT5.out with h | h
                    · exact HSEP.out g (h ▸ e) r
                    · rw [h] at e
                      simp only [World.size_alloc, Option.some.injEq] at e
                      have := (HKL2.out g r).2
                      omega
                  have HM6 := Lib.hid (own_kept3 (HO5.out.alloc (.cells #[.int .i64 a0, .int .i64 b] 55)) HG6.out (fun g e r => HSEP5.out g e r))
                  have HSEP6 : Hid (∀ g, ob M2 = some g → ob K2 ≠ some g) := fun g e r => by
                    rcases HAT6.out with h | h
                    · exact HSEP5.out g e (h ▸ r)
                    · rw [h] at r
                      simp only [World.size_alloc, Option.some.injEq] at r
                      have := (own_lt HO5.out g e).2
                      omega
                  have HBX6 := Lib.hid ((HBX5.out.alloc (.cells #[.int .i64 a0, .int .i64 b] 55)).grown HG6.out (fun e => by have := (HKL2.out _ e.symm).1; omega))
                  have HBI6 : Hid (Below w.heap.size w w6) := bel_app (bel_alloc HBI5.out _) HG6.out (fun g e => by have := (HKL2.out g e).1; omega)
                  exact ⟨⟨i + 1, mm + 1, cm2, M2, mk + 1, ck2, K2, ml ++ [(a0, b)], kl ++ [(a0, b)], by omega, by go_num, rfl, rfl, HST2.out, HM6.out, HO6.out, HSEP6.out, HBX6.out, HBI6.out⟩, by simp [intOf]; omega⟩
            | false =>
              have HOK := Lib.hid hokb
              clear hokb
              have HST2 : Hid (more4 (px, py) (u.take j) s (i + 1) = (ml, kl)) := by show _ = _; rw [HSTEP.out]; unfold stepM; simp only [HOK.out]; rfl
              have hbp : decide (b > 0) = false := by
                cases hd : decide (b > 0) with
                | false => rfl
                | true =>
                  have := HOK.out
                  unfold okY at this
                  simp only [hd, Bool.true_or] at this
                  cases this
              by_cases hb0 : b = 0
              · have hbe : (b == 0) = true := by rw [beq_iff_eq]; exact hb0
                have hap : decide (a0 ≥ 0) = false := by
                  have := HOK.out
                  unfold okY at this
                  simp only [hbp, hbe, Bool.false_or, Bool.true_and] at this
                  exact this
                have hapn : ¬ a0 ≥ 0 := by simpa using hap
                clear hb0
                go_wp2_with fail
                exact ⟨⟨i + 1, mm, cm, M, mk, ck, K, ml, kl, by omega, by go_num, rfl, rfl, HST2.out, HOM.out.alloc _, HOK2.out.alloc _, HSEP.out, HBX.out.alloc _, bel_alloc hbi _⟩, by simp [intOf]; omega⟩
              · have hbe : (b == 0) = false := by rw [beq_eq_false_iff_ne]; exact hb0
                clear hb0
                go_wp2_with fail
                exact ⟨⟨i + 1, mm, cm, M, mk, ck, K, ml, kl, by omega, by go_num, rfl, rfl, HST2.out, HOM.out.alloc _, HOK2.out.alloc _, HSEP.out, HBX.out.alloc _, bel_alloc hbi _⟩, by simp [intOf]; omega⟩
          · obtain rfl : i = 4 := by omega
            have hcap : mm ≤ cm ∧ cm ≤ 9223372036854775807 := own_cap2 HOM.out
            have hnear := HN4.out 4 (Nat.le_refl _)
            rw [hmk] at hnear
            have hgs := HGS.out
            rw [hmk] at hgs
            obtain ⟨tt, htt⟩ : ∃ tt, growC l ml kl = tt := ⟨_, rfl⟩
            simp only at hgs
            rw [htt] at hgs
            have hsum : a + (1 + tt) + growK (l + 1) u s j = tot := by have := HA.out; rw [HJ.out, hgs] at this; omega
            have HSUM := Lib.hid hsum
            have hcall := HIH.out M mm cm ml K mk ck kl wr (Rd.of_own HOM.out) (Rd.of_own HOK2.out) HMLL.out HKL.out hcap.1 hcap.2 (by omega) (by omega)
              (fun c hc => by have := hnear.1 c hc; unfold near0 at this ⊢; omega) (fun c hc => by have := hnear.2 c hc; unfold near0 at this ⊢; omega) (by omega)
            rw [htt, HP.out] at hcall
            have HCALL := Lib.hid hcall
            have haw2 : IntKind.i64.wrap ((a : Int) + 1 + (tt : Int)) = (a : Int) + 1 + (tt : Int) := Go.IntWalk.i64_in _ (by omega)
            clear hcall hnear hgs hmk hBX htt hsum hcap
            go_wp2_with fail
            refine HCALL.out.mono ?_
            rintro e w9 ⟨rfl, hb9⟩
            go_wp2_with fail
            exact ⟨⟨j, a + (1 + tt), by omega, rfl, by go_num, HSUM.out, bel_trans hbi hb9⟩, by simp [lenOf1]; have := HJ.out; omega⟩
      · obtain rfl : k = 0 := by omega
        have HN : Hid (a = tot) := by have := HA.out; simp only [growK, List.range_zero, List.map_nil, List.sum_nil, Nat.add_zero] at this; exact this
        clear hk0
        go_wp2
        go_ret
        exact ⟨by rw [HT.out, ← HN.out]; rfl, hb⟩
end Go.Proofs.Ytagkopemcabkpaa

/- Shapes counted by growth: the reference's number, the two numbers, the law. -/
namespace Go.Proofs.Ytagkopemcabkpaa
open Go.RowKit
set_option linter.unusedVariables false
attribute [local go_sem ↓] Go.wp_at_zero Go.wp_at_succ

theorem len_fix0 : (fixV 0).length = 1 := rfl
theorem len_fix1 : (fixV 1).length = 2 := by rw [← fixF_eq]; decide +kernel
theorem len_fix2 : (fixV 2).length = 6 := by rw [← fixF_eq]; decide +kernel
theorem len_fix3 : (fixV 3).length = 19 := by rw [← fixF_eq]; decide +kernel
theorem len_fix4 : (fixV 4).length = 63 := by rw [← fixF_eq]; decide +kernel
theorem len_fix5 : (fixV 5).length = 216 := by rw [← fixF_eq]; decide +kernel
theorem growC_all : growC 0 [(0, 0)] [(0, 0)] = 1 ∧ growC 1 [(0, 0)] [(0, 0)] = 3 ∧ growC 2 [(0, 0)] [(0, 0)] = 9 ∧ growC 3 [(0, 0)] [(0, 0)] = 28 ∧ growC 4 [(0, 0)] [(0, 0)] = 91 ∧ growC 5 [(0, 0)] [(0, 0)] = 307 := by decide +kernel
def cgS (n : Int) : Int := if 1 ≤ n ∧ n ≤ 6 then (if n = 1 then (growC 0 [(0, 0)] [(0, 0)] : Nat) else (growC (n.toNat - 1) [(0, 0)] [(0, 0)] : Nat) - (growC (n.toNat - 2) [(0, 0)] [(0, 0)] : Nat)) else -1
theorem cg_eq (n : Int) : cgS n = cntV n 6 := by
  by_cases h : 1 ≤ n ∧ n ≤ 6
  · obtain ⟨g0, g1, g2, g3, g4, g5⟩ := growC_all
    rcases (by omega : n = 1 ∨ n = 2 ∨ n = 3 ∨ n = 4 ∨ n = 5 ∨ n = 6) with rfl | rfl | rfl | rfl | rfl | rfl
    · simp [cgS, cntV, g0, len_fix0]
    · simp [cgS, cntV, g0, g1, len_fix1]
    · simp [cgS, cntV, g1, g2, len_fix2]
    · simp [cgS, cntV, g2, g3, len_fix3]
    · simp [cgS, cntV, g3, g4, len_fix4]
    · simp [cgS, cntV, g4, g5, len_fix5]
  · unfold cgS cntV
    rw [if_neg h, if_neg h]
set_option maxHeartbeats 1600000 in
theorem CountByGrowth_s (n : Int) (w : World) : Calls Try.prog 42 #[.int .i64 n] w (Ret w (.int .i64 (cgS n))) := by
  by_cases h : 1 ≤ n ∧ n ≤ 6
  · have hlit : ∀ W : World, (W.alloc (.cells #[.int .i64 0, .int .i64 0] 55)).ownsRow W.heap.size 55 2 (.slice (some ⟨W.heap.size, 0, none⟩) 1 1) 1 (vC [(0, 0)]) := fun W => own_newC W _ 0 0 (Nat.le_refl _)
    have hn0 : ∀ (r : Int), 0 ≤ r → ∀ x ∈ [((0 : Int), (0 : Int))], near0 r x := by
      intro r hr x hx
      simp only [List.mem_singleton] at hx
      subst hx
      unfold near0
      simp only
      omega
    obtain ⟨k, hk⟩ : ∃ k : Nat, n = ((k + 1 : Nat) : Int) := ⟨(n - 1).toNat, by omega⟩
    have hk5 : k ≤ 5 := by omega
    have hb1 := growC_le k [(0, 0)] [(0, 0)] (by simp; omega)
    have h25 : 25 ^ (k + 1) ≤ 244140625 := by
      have : 25 ^ (k + 1) ≤ 25 ^ 6 := Nat.pow_le_pow_right (by omega) (by omega)
      simpa using this
    obtain ⟨a, ha⟩ : ∃ a, growC k [(0, 0)] [(0, 0)] = a := ⟨_, rfl⟩
    rw [ha] at hb1
    have hab : a ≤ 244140625 := by omega
    have HB := Lib.hid h
    have HLIT := Lib.hid hlit
    have HN0 := Lib.hid hn0
    have HA := Lib.hid ha
    have hC := l25Grow_s k (some ⟨w.heap.size, 0, none⟩) 1 1 [(0, 0)] (some ⟨w.heap.size, 0, none⟩) 1 1 [(0, 0)]
    by_cases h1 : n = 1
    · have hk0 : k = 0 := by omega
      have HV : Hid (cgS n = a) := by show cgS n = _; unfold cgS; rw [if_pos h, if_pos h1, ← ha, hk0]
      have e1 : (n == 1) = true := by rw [beq_iff_eq]; exact h1
      have HK := Lib.hid hk
      clear hk h h1 hk0 hC hlit hn0 ha hb1 h25
      go_enter Try.func42, Try.ntmps42
      go_wp2_with fail
      refine (l1In_t n 1 6 _ HB.out.1 HB.out.2).mono ?_
      rintro e w1 ⟨rfl, hb1⟩
      go_wp2_with fail
      rw [HK.out]
      refine (l25Grow_s k _ 1 1 [(0, 0)] _ 1 1 [(0, 0)] _ (Rd.of_own (HLIT.out w1)) (Rd.of_own (HLIT.out w1)) rfl rfl (by omega) (by omega) (by omega) (by omega) (HN0.out _ (by omega)) (HN0.out _ (by omega)) hk5).mono ?_
      rw [HA.out]
      rintro e w2 ⟨rfl, hb2⟩
      rw [← HK.out]
      go_wp2_with fail
      go_ret
      exact ⟨by rw [HV.out]; rfl, (by (repeat (first | with_reducible exact Below.refl _ _ | with_reducible assumption | with_reducible apply bel_alloc | with_reducible apply bel_drew | with_reducible apply bel_drewN | ((with_reducible refine bel_set ?_ ?_); rotate_left; (simp <;> omega)) | (with_reducible refine bel_trans ?_ (by with_reducible assumption)))))⟩
    · obtain ⟨j, hj⟩ : ∃ j : Nat, k = j + 1 := ⟨k - 1, by omega⟩
      have hb2 := growC_le j [(0, 0)] [(0, 0)] (by simp; omega)
      have h252 : 25 ^ (j + 1) ≤ 244140625 := by
        have : 25 ^ (j + 1) ≤ 25 ^ 6 := Nat.pow_le_pow_right (by omega) (by omega)
        simpa using this
      obtain ⟨b, hbv⟩ : ∃ b, growC j [(0, 0)] [(0, 0)] = b := ⟨_, rfl⟩
      rw [hbv] at hb2
      have hbb : b ≤ 244140625 := by omega
      have HV : Hid (cgS n = (a : Int) - (b : Int)) := by
        show cgS n = _
        unfold cgS
        rw [if_pos h, if_neg h1, ← ha, ← hbv, show n.toNat - 1 = k from by omega, show n.toNat - 2 = j from by omega]
      have e1 : (n == 1) = false := by rw [beq_eq_false_iff_ne]; exact h1
      have HK := Lib.hid hk
      have HBV := Lib.hid hbv
      have hn1 : n - 1 = ((j + 1 : Nat) : Int) := by omega
      have HN1 := Lib.hid hn1
      have hw1 : IntKind.i64.wrap (n - 1) = n - 1 := Go.IntWalk.i64_in _ (by omega)
      have hj5 : j ≤ 5 := by omega
      have hwab : IntKind.i64.wrap ((a : Int) - (b : Int)) = (a : Int) - (b : Int) := Go.IntWalk.i64_in _ (by omega)
      clear hk h h1 hC hlit hn0 ha hb1 h25 hj hb2 h252 hbv hn1
      go_enter Try.func42, Try.ntmps42
      go_wp2_with fail
      refine (l1In_t n 1 6 _ HB.out.1 HB.out.2).mono ?_
      rintro e w1 ⟨rfl, hb1⟩
      go_wp2_with fail
      rw [HK.out]
      refine (l25Grow_s k _ 1 1 [(0, 0)] _ 1 1 [(0, 0)] _ (Rd.of_own (HLIT.out w1)) (Rd.of_own (HLIT.out w1)) rfl rfl (by omega) (by omega) (by omega) (by omega) (HN0.out _ (by omega)) (HN0.out _ (by omega)) hk5).mono ?_
      rw [HA.out]
      rintro e w2 ⟨rfl, hb2⟩
      rw [← HK.out]
      have HR2 := Lib.hid (Rd.below (Rd.of_own (HLIT.out w1)) hb2)
      go_wp2_with fail
      rw [HN1.out]
      refine (l25Grow_s j _ 1 1 [(0, 0)] _ 1 1 [(0, 0)] _ HR2.out HR2.out rfl rfl (by omega) (by omega) (by omega) (by omega) (HN0.out _ (by omega)) (HN0.out _ (by omega)) hj5).mono ?_
      rw [HBV.out]
      rintro e w3 ⟨rfl, hb3⟩
      go_wp2_with fail
      go_ret
      exact ⟨by rw [HV.out]; rfl, bel_trans (bel_trans (bel_alloc hb1 _) hb2) hb3⟩
  · have HV : Hid (cgS n = -1) := by show cgS n = _; unfold cgS; rw [if_neg h]
    have HB := Lib.hid h
    clear h
    go_enter Try.func42, Try.ntmps42
    go_wp2_with fail
    refine (l1In_f n 1 6 _ HB.out).mono ?_
    rintro e w1 ⟨rfl, hb1⟩
    go_wp2_with fail
    go_ret
    exact ⟨by rw [HV.out]; rfl, hb1⟩
end Go.Proofs.Ytagkopemcabkpaa

/- The places of a mask: the program. -/
namespace Go.Proofs.Ytagkopemcabkpaa
open Go.RowKit
set_option linter.unusedVariables false
attribute [local go_sem ↓] Go.wp_at_zero Go.wp_at_succ
/-- The places of the bits below k, in order. -/
def plTo (n mask : Nat) : Nat → List C
  | 0 => []
  | k + 1 => plTo n mask k ++ (if mask.testBit k then [(((k % n : Nat) : Int), ((k / n : Nat) : Int))] else [])
theorem plTo_len (n mask : Nat) : ∀ k, (plTo n mask k).length ≤ k
  | 0 => Nat.le_refl _
  | k + 1 => by
    have := plTo_len n mask k
    show (plTo n mask k ++ _).length ≤ _
    rw [List.length_append]
    split <;> simp <;> omega
theorem plTo_end {n mask k : Nat} (h : mask / 2 ^ k = 0) : ∀ j, k ≤ j → plTo n mask j = plTo n mask k := by
  intro j hj
  induction j with
  | zero => rw [show k = 0 from by omega]
  | succ j ih =>
    by_cases e : k = j + 1
    · rw [e]
    · have hb : mask.testBit j = false := by
        have hlt : mask < 2 ^ k := (Nat.div_eq_zero_iff_lt (Nat.two_pow_pos k)).1 h
        exact Nat.testBit_lt_two_pow (Nat.lt_of_lt_of_le hlt (Nat.pow_le_pow_right (by decide) (by omega)))
      show plTo n mask j ++ _ = _
      rw [hb, ih (by omega)]
      simp
end Go.Proofs.Ytagkopemcabkpaa

/- Shapes counted by masks: plain functions. No program is in sight. -/
namespace Go.Proofs.Ytagkopemcabkpaa
open Go.RowKit
set_option linter.unusedVariables false
/-- The bits of x that are set, of the lowest f. -/
def pcF : Nat → Nat → Nat
  | 0, _ => 0
  | f + 1, x => x % 2 + pcF f (x / 2)
theorem pcF_zero : ∀ f, pcF f 0 = 0
  | 0 => rfl
  | f + 1 => by unfold pcF; rw [Nat.zero_div, pcF_zero f]
theorem pcF_le : ∀ f x, pcF f x ≤ f
  | 0, x => Nat.le_refl _
  | f + 1, x => by unfold pcF; have := pcF_le f (x / 2); omega
theorem pcF_add : ∀ (f k q r : Nat), r < 2 ^ k → pcF f (2 ^ k * q + r) = pcF f (2 ^ k * q) + pcF f r
  | 0, _, _, _, _ => rfl
  | f + 1, 0, q, r, h => by
    have hr : r = 0 := by simpa using h
    subst hr
    rw [pcF_zero]; rfl
  | f + 1, k + 1, q, r, h => by
    have e1 : 2 ^ (k + 1) * q + r = 2 * (2 ^ k * q) + r := by rw [Nat.pow_succ, Nat.mul_comm (2 ^ k) 2, Nat.mul_assoc]
    have e2 : 2 ^ (k + 1) * q = 2 * (2 ^ k * q) := by rw [Nat.pow_succ, Nat.mul_comm (2 ^ k) 2, Nat.mul_assoc]
    have h2 : r / 2 < 2 ^ k := by rw [Nat.pow_succ] at h; omega
    have ih := pcF_add f k q (r / 2) h2
    unfold pcF
    rw [e1, e2, show (2 * (2 ^ k * q) + r) / 2 = 2 ^ k * q + r / 2 from by omega, show (2 * (2 ^ k * q)) / 2 = 2 ^ k * q from by omega, ih]
    omega
theorem pcF_pow : ∀ (f k : Nat), k < f → pcF f (2 ^ k) = 1
  | 0, k, h => by omega
  | f + 1, 0, _ => by unfold pcF; simp [pcF_zero]
  | f + 1, k + 1, h => by
    unfold pcF
    rw [show 2 ^ (k + 1) / 2 = 2 ^ k from by rw [Nat.pow_succ]; omega, pcF_pow f k (by omega), show 2 ^ (k + 1) % 2 = 0 from by rw [Nat.pow_succ]; omega]
def pc (m : Nat) : Nat := pcF 16 m
theorem pc_zero : pc 0 = 0 := pcF_zero 16
theorem pc_le (m : Nat) : pc m ≤ 16 := pcF_le 16 m
theorem pc_add (k q r : Nat) (h : r < 2 ^ k) : pc (2 ^ k * q + r) = pc (2 ^ k * q) + pc r := pcF_add 16 k q r h
theorem pc_pow (k : Nat) (h : k < 16) : pc (2 ^ k) = 1 := pcF_pow 16 k h
theorem pc_eq (m : Nat) : pc m = pcF 16 m := rfl
attribute [irreducible] pc
/-- What is reached, with one step more. -/
def expand (s R : List C) : List C := s.foldl (fun R c => if hasC R c.1 c.2 then R else if R.any (fun b => near b c) then R ++ [c] else R) R
def reachK (s : List C) : Nat → List C
  | 0 => [s0 s]
  | k + 1 => expand s (reachK s k)
def connO (s : List C) : Option Bool :=
  let R := reachK s s.length
  if s.all (fun c => hasC R c.1 c.2) then some true else if s.all (fun c => hasC R c.1 c.2 || !(R.any fun b => near b c)) then some false else none
theorem hasC_mm (s : List C) (c : C) : hasC s c.1 c.2 = true ↔ c ∈ s := by
  obtain ⟨x, y⟩ := c
  simp only [hasC, List.any_eq_true, Bool.and_eq_true, beq_iff_eq]
  constructor
  · rintro ⟨⟨a, b⟩, h, rfl, rfl⟩; exact h
  · intro h; exact ⟨_, h, rfl, rfl⟩
theorem foldX (s : List C) : ∀ (l R : List C), (∀ c ∈ l, c ∈ s) → (∀ c ∈ R, Rch s (s0 s) c) → s0 s ∈ R →
    (∀ c ∈ l.foldl (fun R c => if hasC R c.1 c.2 then R else if R.any (fun b => near b c) then R ++ [c] else R) R, Rch s (s0 s) c) ∧ s0 s ∈ l.foldl (fun R c => if hasC R c.1 c.2 then R else if R.any (fun b => near b c) then R ++ [c] else R) R
  | [], R, _, h, h0 => ⟨h, h0⟩
  | d :: l, R, hl, h, h0 => by
    rw [List.foldl_cons]
    refine foldX s l _ (fun c hc => hl c (by simp [hc])) ?_ ?_
    · split
      · exact h
      · split
        · rename_i h2
          intro c hc
          rcases List.mem_append.1 hc with h3 | h3
          · exact h c h3
          · simp at h3
            subst h3
            obtain ⟨b, hb, hn⟩ := List.any_eq_true.1 h2
            exact .step (h b hb) (hl c (by simp)) hn
        · exact h
    · split
      · exact h0
      · split
        · exact List.mem_append.2 (.inl h0)
        · exact h0
theorem reachK_good (s : List C) : ∀ k, (∀ c ∈ reachK s k, Rch s (s0 s) c) ∧ s0 s ∈ reachK s k
  | 0 => by
    refine ⟨fun c hc => ?_, by simp [reachK]⟩
    simp [reachK] at hc
    subst hc
    exact .base
  | k + 1 => foldX s s _ (fun c h => h) (reachK_good s k).1 (reachK_good s k).2
theorem connO_eq {s : List C} {b : Bool} (h : connO s = some b) : conn s = b := by
  obtain ⟨g1, g2⟩ := reachK_good s s.length
  unfold connO at h
  simp only at h
  split at h
  · rename_i ha
    injection h with h
    rw [← h, conn_iff]
    intro c hc
    exact g1 c ((hasC_mm _ _).1 (List.all_eq_true.1 ha c hc))
  · rename_i ha
    split at h
    · rename_i hcl
      injection h with h
      rw [← h, Bool.eq_false_iff]
      intro hcn
      refine ha (List.all_eq_true.2 fun c hc => (hasC_mm _ _).2 ?_)
      have hr := (conn_iff s).1 hcn c hc
      have : ∀ d, Rch s (s0 s) d → d ∈ reachK s s.length := by
        intro d hd
        induction hd with
        | base => exact g2
        | step hb hcs hn ih =>
          have h1 := List.all_eq_true.1 hcl _ hcs
          simp only [Bool.or_eq_true, Bool.not_eq_true', List.any_eq_false] at h1
          rcases h1 with h1 | h1
          · exact (hasC_mm _ _).1 h1
          · exact absurd hn (h1 _ ih)
      exact this c hr
    · cases h
/-- Whether a mask is a shape in its corner. -/
noncomputable def selR (n m : Nat) : Bool := decide (pc m = n) && (isConn (plTo n m (n * n)) && decide (cornS (plTo n m (n * n)) = plTo n m (n * n)))
noncomputable def cntR (n k : Nat) : Nat := (List.range k).countP (selR n)
theorem cntR_succ (n k : Nat) : cntR n (k + 1) = cntR n k + (if selR n k then 1 else 0) := by
  unfold cntR
  rw [List.range_succ, List.countP_append, List.countP_singleton]
def leafO (s : List C) : Option Nat :=
  if cornS s = s then (if isShape s then (match connO s with
    | some true => some 1
    | some false => some 0
    | none => none) else some 0) else some 0
set_option maxHeartbeats 800000 in
theorem leafO_eq {s : List C} {v : Nat} (h : leafO s = some v) : (if isConn s && decide (cornS s = s) then 1 else 0) = v := by
  unfold leafO at h
  split at h
  · rename_i hc
    split at h
    · rename_i hs
      split at h
      · rename_i hk
        injection h with h
        unfold isConn
        rw [hs, connO_eq hk, ← h]
        simp [hc]
      · rename_i hk
        injection h with h
        unfold isConn
        rw [hs, connO_eq hk, ← h]
        simp
      · cases h
    · rename_i hs
      injection h with h
      unfold isConn
      rw [show isShape s = false from by simpa using hs, ← h]
      simp
  · rename_i hc
    injection h with h
    rw [← h]
    simp [hc]
def treeO (n : Nat) : Nat → Nat → Nat → Option Nat
  | 0, b, p => if p = n then frcS (plTo n b (n * n)) leafO else some 0
  | k + 1, b, p => if n < p then some 0 else match treeO n k b p with
    | none => none
    | some x => match treeO n k (b + 2 ^ k) (p + 1) with
      | none => none
      | some y => some (x + y)
set_option maxHeartbeats 1600000 in
theorem treeO_eq (n : Nat) : ∀ (k q p v : Nat), k ≤ 16 → p = pc (2 ^ k * q) → treeO n k (2 ^ k * q) p = some v → (List.range' (2 ^ k * q) (2 ^ k)).countP (selR n) = v
  | 0, q, p, v, _, hp, h => by
    unfold treeO at h
    rw [show (2 : Nat) ^ 0 = 1 from rfl, Nat.one_mul] at h hp ⊢
    rw [show List.range' q 1 = [q] from rfl, List.countP_singleton]
    unfold selR
    split at h
    · rename_i e
      rw [frcS_eq] at h
      have := leafO_eq h
      rw [show decide (pc q = n) = true from by rw [← hp]; simpa using e, Bool.true_and]
      exact this
    · rename_i e
      injection h with h
      rw [show decide (pc q = n) = false from by rw [← hp]; simpa using e, ← h]
      simp
  | k + 1, q, p, v, hk, hp, h => by
    have e0 : 2 ^ (k + 1) * q = 2 ^ k * (2 * q) := by rw [Nat.pow_succ, Nat.mul_assoc]
    have e1 : 2 ^ k * (2 * q) + 2 ^ k = 2 ^ k * (2 * q + 1) := by rw [Nat.mul_add, Nat.mul_one]
    have hpow : 2 ^ (k + 1) = 2 ^ k + 2 ^ k := by rw [Nat.pow_succ]; omega
    unfold treeO at h
    split at h
    · rename_i hlt
      injection h with h
      rw [← h, List.countP_eq_zero]
      intro m hm hs
      obtain ⟨h1, h2⟩ := List.mem_range'_1.1 hm
      obtain ⟨r, rfl⟩ : ∃ r, m = 2 ^ (k + 1) * q + r := ⟨m - 2 ^ (k + 1) * q, by omega⟩
      have h3 := pc_add (k + 1) q r (by omega)
      unfold selR at hs
      rw [Bool.and_eq_true, decide_eq_true_eq] at hs
      have := hs.1
      omega
    · split at h
      · cases h
      · rename_i x hx
        split at h
        · cases h
        · rename_i y hy
          injection h with h
          rw [e0] at hx hy hp ⊢
          have i1 := treeO_eq n k (2 * q) p x (by omega) hp hx
          rw [e1] at hy
          have hp2 : p + 1 = pc (2 ^ k * (2 * q + 1)) := by
            have hh : pc (2 ^ k * (2 * q + 1)) = pc (2 ^ (k + 1) * q) + pc (2 ^ k) := by
              rw [← pc_add (k + 1) q (2 ^ k) (by have := Nat.two_pow_pos k; omega), e0, e1]
            rw [hh, pc_pow k (by omega), e0, hp]
          have i2 := treeO_eq n k (2 * q + 1) (p + 1) y (by omega) hp2 hy
          rw [hpow, ← List.range'_append_1, List.countP_append, i1, e1, i2, h]
theorem tree_1 : treeO 1 1 0 0 = some 1 := by decide +kernel
theorem tree_2 : treeO 2 4 0 0 = some 2 := by decide +kernel
theorem tree_3 : treeO 3 9 0 0 = some 6 := by decide +kernel
theorem tree_4 : treeO 4 16 0 0 = some 19 := by decide +kernel
theorem cntR_tree (n N v : Nat) (hN : N ≤ 16) (h : treeO n N 0 0 = some v) : cntR n (2 ^ N) = v := by
  have := treeO_eq n N 0 0 v hN (by rw [Nat.mul_zero]; exact pc_zero.symm) (by rw [Nat.mul_zero]; exact h)
  rw [Nat.mul_zero] at this
  unfold cntR
  rw [List.range_eq_range']
  exact this
end Go.Proofs.Ytagkopemcabkpaa

/- Shapes counted by masks: the reference. -/
namespace Go.Proofs.Ytagkopemcabkpaa
open Go.RowKit
set_option linter.unusedVariables false
attribute [local go_sem ↓] Go.wp_at_zero Go.wp_at_succ

theorem bit_testR (m k : Nat) (hm : m < 2 ^ 62) : (bits .and .i64 ((m : Int) / 2 ^ k) 1 == 1) = m.testBit k := by
  have e : ((m : Int) / 2 ^ k) = ((m / 2 ^ k : Nat) : Int) := by simp
  have hle := Nat.div_le_self m (2 ^ k)
  have h1 := i64_and (m / 2 ^ k) 1 (by omega) (by decide)
  rw [e, show (1 : Int) = ((1 : Nat) : Int) from rfl, h1, Nat.and_one_is_mod, bit_and]
  cases m.testBit k <;> rfl
theorem plTo_small (n m : Nat) : ∀ k, k ≤ 16 → ∀ d ∈ plTo n m k, small d
  | 0, _, d, h => by simp [plTo] at h
  | k + 1, hk, d, h => by
    unfold plTo at h
    rcases List.mem_append.1 h with h1 | h1
    · exact plTo_small n m k (by omega) d h1
    · split at h1
      · have h2 := Nat.mod_le k n
        have h3 := Nat.div_le_self k n
        obtain ⟨a, ha⟩ : ∃ a, k % n = a := ⟨_, rfl⟩
        obtain ⟨b, hb⟩ : ∃ b, k / n = b := ⟨_, rfl⟩
        rw [ha, hb, List.mem_singleton] at h1
        rw [ha] at h2
        rw [hb] at h3
        subst h1
        unfold small
        simp only
        omega
      · simp at h1
theorem selR_no {n m : Nat} (h : ¬ pc m = n) : selR n m = false := by
  unfold selR
  rw [show decide (pc m = n) = false from by simpa using h, Bool.false_and]
theorem selR_yes {n m N : Nat} (h : pc m = n) (hN : n * n = N) : selR n m = (isConn (plTo n m N) && decide (cornS (plTo n m N) = plTo n m N)) := by
  unfold selR
  rw [show decide (pc m = n) = true from by simpa using h, Bool.true_and, hN]
theorem cntR_le (n k : Nat) : cntR n k ≤ k := by
  unfold cntR
  have := List.countP_le_length (p := selR n) (l := List.range k)
  simpa using this
set_option maxRecDepth 100000 in
set_option maxHeartbeats 6400000 in
theorem CountByRows_s (n N P : Nat) (w : World) (hn1 : 1 ≤ n) (hn4 : n ≤ 4) (hN : n * n = N) (hP : 2 ^ N = P) : Calls Try.prog 44 #[.int .i64 (n : Int)] w (Ret w (.int .i64 (cntR n P : Nat))) := by
  have hN16 : N ≤ 16 := by rw [← hN]; exact Nat.mul_le_mul hn4 hn4
  have hP16 : P ≤ 65536 := by rw [← hP]; exact Nat.pow_le_pow_right (by decide) hN16
  have hNN : (n : Int) * (n : Int) = (N : Int) := by rw [← hN]; simp
  have hNw : IntKind.i64.wrap (N : Int) = (N : Int) := Go.IntWalk.i64_in _ (by omega)
  have hN0 : (0 : Int) ≤ (N : Int) := by omega
  have hN64 : (N : Int) ≤ 64 := by omega
  have hPI : (2 : Int) ^ N = (P : Int) := by rw [← hP]; simp
  have hPw : IntKind.i64.wrap (P : Int) = (P : Int) := Go.IntWalk.i64_in _ (by omega)
  have HN := Lib.hid hN
  have HP := Lib.hid hP
  clear hN hP
  go_enter Try.func44, Try.ntmps44
  go_wp2_with fail
  refine (l1In_t (n : Int) 1 4 _ (by omega) (by omega)).mono ?_
  rintro e w1 ⟨rfl, hb1⟩
  go_wp2_with fail
  go_loopw [4, 3] (fun e4 e3 wr => ∃ (m c : Nat), m ≤ P ∧ e4 = .int .i64 m ∧ e3 = .int .i64 c ∧ c = cntR n m ∧ Below w.heap.size w wr) (fun e4 _ _ => P - (intOf e4).toNat)
  case atStart => exact ⟨0, 0, Nat.zero_le _, rfl, rfl, rfl, hb1⟩
  case round =>
    obtain ⟨m, c, hm, rfl, rfl, hc, hb⟩ := hrel
    obtain ⟨v, hv⟩ : ∃ v, v = wr := ⟨_, rfl⟩
    subst hv
    by_cases hlt : m < P
    · have hmI : (m : Int) < (P : Int) := by omega
      have hm0 : (0 : Int) ≤ (m : Int) := by omega
      have hst := cntR_succ n m
      rw [← hc] at hst
      have hcm : c ≤ m := by rw [hc]; exact cntR_le n m
      have HST := Lib.hid hst
      clear hst hc
      go_wp2_with fail
      go_loopw [6, 5] (fun e6 e5 wr => ∃ (f x b : Nat), e6 = .int .i64 x ∧ e5 = .int .i64 b ∧ b + pcF f x = pc m ∧ x < 2 ^ f ∧ x ≤ 65536 ∧ Below v.heap.size v wr) (fun e6 _ _ => (intOf e6).toNat)
      case atStart => exact ⟨16, m, 0, rfl, rfl, by rw [pc_eq, Nat.zero_add], Nat.lt_of_lt_of_le hlt hP16, by omega, Below.refl _ _⟩
      case round =>
        obtain ⟨f, x, b, rfl, rfl, hpc, hxf, hx6, hb2⟩ := hrel
        have hb16 : b ≤ 16 := by have := pc_le m; omega
        by_cases hx0 : 0 < x
        · obtain ⟨f, rfl⟩ : ∃ g, f = g + 1 := by
            cases f with
            | zero => simp at hxf; omega
            | succ g => exact ⟨g, rfl⟩
          have hpe : pcF (f + 1) x = x % 2 + pcF f (x / 2) := rfl
          have hx2 : x / 2 < 2 ^ f := by rw [Nat.pow_succ] at hxf; omega
          have hand : bits .and .i64 (x : Int) 1 = ((x % 2 : Nat) : Int) := by
            have h := i64_and x 1 (by omega) (by decide)
            rw [Nat.and_one_is_mod] at h
            exact h
          have hsh : (x : Int) / 2 = ((x / 2 : Nat) : Int) := by simp
          rw [hpe] at hpc
          obtain ⟨r, hr⟩ : ∃ r, x % 2 = r := ⟨_, rfl⟩
          obtain ⟨y, hy⟩ : ∃ y, x / 2 = y := ⟨_, rfl⟩
          have hr2 : r < 2 := by rw [← hr]; exact Nat.mod_lt _ (by decide)
          have hyx : y < x := by rw [← hy]; omega
          rw [hr, hy] at hpc
          rw [hr] at hand
          rw [hy] at hsh hx2
          have hbw : IntKind.i64.wrap ((b : Int) + (r : Int)) = (b : Int) + (r : Int) := Go.IntWalk.i64_in _ (by omega)
          have HPC := Lib.hid hpc
          have HX2 := Lib.hid hx2
          clear hpc hx2 hpe hr hy hxf
          go_wp2_with fail
          exact ⟨⟨f, y, b + r, by go_num, by go_num, by have := HPC.out; omega, HX2.out, by omega, hb2⟩, by simp [intOf]; omega⟩
        · obtain rfl : x = 0 := by omega
          rw [pcF_zero, Nat.add_zero] at hpc
          clear hx0 hxf
          by_cases hbn : b = n
          · have hbf : ((b : Int) != (n : Int)) = false := by simp [hbn]
            have HSEL := Lib.hid (selR_yes (hpc.symm.trans hbn) HN.out)
            have HI := Lib.hid (own_lit wr (base := v.heap.size) hb2.size)
            have HBN := Lib.hid hbn
            have hm62 : m < 2 ^ 62 := by omega
            clear hbn hpc
            go_wp2_with fail
            go_loopw [8, 7] (fun e8 e7 wr => ∃ (k q cq : Nat) (A : Option Addr), k ≤ N ∧ q ≤ k ∧ e8 = .int .i64 k ∧ e7 = .slice A q cq ∧ wr.ownsRow v.heap.size 55 2 (.slice A q cq) q (vC (plTo n m k)) ∧ Below v.heap.size v wr) (fun e8 _ _ => N - (intOf e8).toNat)
            case atStart => exact ⟨0, 0, 0, _, Nat.zero_le _, Nat.le_refl _, rfl, rfl, HI.out, bel_alloc hb2 _⟩
            case round =>
              clear HI hb2
              obtain ⟨k, q, cq, A, hk, hqk, rfl, rfl, hown, hb2⟩ := hrel
              have hk0 : (0 : Int) ≤ (k : Int) := by omega
              have hk64 : (k : Int) ≤ 64 := by omega
              by_cases hkN : k < N
              · have hkI : (k : Int) < (N : Int) := by omega
                obtain ⟨d, hd⟩ : ∃ d, m / 2 ^ k = d := ⟨_, rfl⟩
                have hdI : (m : Int) / 2 ^ k = (d : Int) := by rw [← hd]; simp
                have hbit := bit_testR m k hm62
                rw [hdI] at hbit
                obtain ⟨xk, hxk⟩ : ∃ xk, k % n = xk := ⟨_, rfl⟩
                obtain ⟨yk, hyk⟩ : ∃ yk, k / n = yk := ⟨_, rfl⟩
                have hstep : plTo n m (k + 1) = plTo n m k ++ (if m.testBit k then [((xk : Int), (yk : Int))] else []) := by rw [← hxk, ← hyk]; rfl
                have HO := Lib.hid hown
                clear hown hd
                cases hb1 : m.testBit k with
                | false =>
                  rw [hb1] at hbit hstep
                  have HS := Lib.hid (hstep.trans (List.append_nil _))
                  clear hstep hb1 hxk hyk
                  go_wp2_with fail
                  exact ⟨⟨k + 1, q, cq, A, by omega, by omega, by go_num, rfl, by rw [HS.out]; exact HO.out, hb2⟩, by simp [intOf]; omega⟩
                | true =>
                  rw [hb1] at hbit
                  rw [hb1, if_pos rfl] at hstep
                  have HS := Lib.hid hstep
                  have e1 : (k : Int) % (n : Int) = (xk : Int) := by rw [← hxk]; rfl
                  have e2 : (k : Int) / (n : Int) = (yk : Int) := by rw [← hyk]; rfl
                  have e3 : (k : Int).tmod (n : Int) = (xk : Int) := by rw [Int.tmod_eq_emod_of_nonneg hk0]; exact e1
                  have e4 : (k : Int).tdiv (n : Int) = (yk : Int) := by rw [Int.tdiv_eq_ediv_of_nonneg hk0]; exact e2
                  have hyk36 : yk ≤ 36 := by rw [← hyk]; have := Nat.div_le_self k n; omega
                  have hxk36 : xk ≤ 36 := by rw [← hxk]; have := Nat.mod_lt k (show 0 < n by omega); omega
                  have e5 : IntKind.i64.wrap (yk : Int) = (yk : Int) := Go.IntWalk.i64_in _ (by omega)
                  have e6 : IntKind.i64.wrap (xk : Int) = (xk : Int) := Go.IntWalk.i64_in _ (by omega)
                  have hnn : ¬ n = 0 := by omega
                  have hbz := hb2.size
                  clear hstep hb1 hxk hyk
                  go_wp2_with fail
                  (refine wp_region_tailN (C := Gr wr A) 8 (by kernel_rfl) (by kernel_rfl) (Gr.drawn _ _) (fun _ _ h k => h.ext k) ?_; simp only [List.take_succ_cons, List.take_zero, List.drop_succ_cons, List.drop_zero]; (repeat (first | (refine headSkip (by rfl) rfl ?_; simp only [List.setIfInBounds_toArray, List.set_cons_zero, List.set_cons_succ]) | (refine headV (v := ?_) (by rfl) rfl (fun w' hcw => ?_) ?_; rotate_left; ((try dsimp only at hcw); have hbc := hcw.cells; go_simp; first | done | with_reducible rfl | fail); simp only [List.setIfInBounds_toArray, List.set_cons_zero, List.set_cons_succ]))); unfold wpHead)
                  (refine tailK (by rfl) (fun w3 hc3 he3 K hK => ?_); go_simp; refine hK _ _ (hc3.ext (by (repeat (first | with_reducible exact Below.refl _ _ | with_reducible assumption | with_reducible apply bel_alloc | with_reducible apply bel_drew | with_reducible apply bel_drewN | ((with_reducible refine bel_set ?_ ?_); rotate_left; (simp <;> omega)) | (with_reducible refine bel_trans ?_ (by with_reducible assumption)))))) ?_; clear hK K)
                  (refine tailK (by rfl) (fun w4 hc4 he4 K hK => ?_); refine wpC _ _ _ rfl v.heap.size A q cq (plTo n m k) rfl (own_keep ((own_keep HO.out he3).alloc _) he4) _ 1 1 [((xk : Int), (yk : Int))] rfl (Rd.below (rd_newC _ _ _ _) he4) rfl (by omega) (by have h2 := he3.size; have h3 := he4.size; simp at h3; omega) ?_; intro A2 c2 w5 hown5 hg5 _; refine hK _ _ (Gr.trans hc4 hg5) ?_; clear hK K; simp only [Act.put, List.setIfInBounds_toArray, List.set_cons_zero, List.set_cons_succ])
                  (refine tailK (by rfl) (fun w6 hc6 he6 K hK => ?_); go_simp; refine hK _ _ (hc6) ?_; clear hK K)
                  (refine fun w7 hc7 he7 => NoPanic.normal ?_)
                  have hb5 : Below v.heap.size v w5 := bel_app (bel_trans (bel_alloc (bel_trans hb2 he3) _) he4) hg5 (fun g' hg' => ((own_lt HO.out) g' hg').1)
                  have HO3 := Lib.hid (own_keep (own_keep hown5 he6) he7)
                  have hb7 : Below v.heap.size v w7 := bel_trans (bel_trans hb5 he6) he7
                  clear hown5 hc3 he3 hc4 he4 hg5 hc6 he6 hc7 he7 hb5 e1 e2 e3 e4 e5 e6 hbit hdI hnn hbz
                  go_wp2_with fail
                  refine ⟨⟨_, _, _, _, _, _, _, _, _, _, _, _, _, _, _, _, _, _, _, _, _, _, _, _, ⟨k + 1, q + 1, c2, A2, ?_, ?_, ?_, ?_, ?_, ?_⟩, rfl⟩, ?_⟩
                  · omega
                  · omega
                  · go_num
                  · rfl
                  · rw [HS.out]; exact HO3.out
                  · exact hb7
                  · simp [intOf]; omega
              · obtain rfl : k = N := by omega
                have hkI : ¬ (k : Int) < (k : Int) := by omega
                have hsm := plTo_small n m k hN16
                obtain ⟨s, hs⟩ : ∃ s, plTo n m k = s := ⟨_, rfl⟩
                have hsel := HSEL.out
                rw [hs] at hown hsm hsel
                have hsl : s.length = q := by have := own_len hown; rw [vC_length] at this; omega
                have HSM := Lib.hid hsm
                have HO := Lib.hid hown
                have HSL := Lib.hid hsl
                have HSE := Lib.hid hsel
                have hq20 : q ≤ 1048576 := by omega
                clear hown hsm hs hsl hsel
                cases hcn : isConn s with
                | false =>
                  have HS : Hid (c = cntR n (m + 1)) := by show c = _; rw [HST.out, HSE.out, hcn]; rfl
                  have HCN := Lib.hid hcn
                  clear hcn
                  go_wp2_with fail
                  refine (IsConnectedShape_s A q cq s _ (Rd.of_own HO.out) HSL.out (by omega)).mono ?_
                  rw [HCN.out]
                  rintro e w3 ⟨rfl, hb3⟩
                  have hb9 : Below w.heap.size w w3 := bel_trans hb (bel_trans hb2 hb3)
                  go_wp2_with fail
                  exact ⟨⟨m + 1, c, by omega, by go_num, rfl, HS.out, hb9⟩, by simp [intOf]; omega⟩
                | true =>
                  have HCN := Lib.hid hcn
                  have hcb : c + 1 ≤ 65537 := by omega
                  clear hcn
                  go_wp2_with fail
                  refine (IsConnectedShape_s A q cq s _ (Rd.of_own HO.out) HSL.out (by omega)).mono ?_
                  rw [HCN.out]
                  rintro e w3 ⟨rfl, hb3⟩
                  have HO3 := Lib.hid (own_keep HO.out hb3)
                  go_wp2_with fail
                  refine (l2Corner_s A q cq s _ (Rd.of_own HO3.out) HSL.out hq20 HSM.out).mono ?_
                  rintro e w4 ⟨E, me, ce, rfl, hoE, hb4⟩
                  have hme : (cornS s).length = me := by have := own_len hoE; rw [vC_length] at this; omega
                  have hme2 : me = q := by rw [← hme, ← HSL.out]; exact mv_len _ _ _
                  have HOE := Lib.hid hoE
                  have HME := Lib.hid hme
                  have HO4 := Lib.hid (own_keep HO3.out hb4)
                  have hme3 : me ≤ 1099511627776 := by omega
                  clear hoE hme hme2
                  go_wp2_with fail
                  refine (EqualShapes_s E A me ce q cq (cornS s) s _ (Rd.of_own HOE.out) (Rd.of_own HO4.out) HME.out HSL.out hme3 (by omega)).mono ?_
                  cases hq : decide (cornS s = s) with
                  | false =>
                    have HS : Hid (c = cntR n (m + 1)) := by show c = _; rw [HST.out, HSE.out, HCN.out, hq]; rfl
                    clear hq
                    rintro e w5 ⟨rfl, hb5⟩
                    have hb9 : Below w.heap.size w w5 := bel_trans hb (bel_trans hb2 (bel_trans hb3 (bel_trans hb4 hb5)))
                    go_wp2_with fail
                    exact ⟨⟨m + 1, c, by omega, by go_num, rfl, HS.out, hb9⟩, by simp [intOf]; omega⟩
                  | true =>
                    have HS : Hid (c + 1 = cntR n (m + 1)) := by show c + 1 = _; rw [HST.out, HSE.out, HCN.out, hq]; rfl
                    clear hq
                    rintro e w5 ⟨rfl, hb5⟩
                    have hb9 : Below w.heap.size w w5 := bel_trans hb (bel_trans hb2 (bel_trans hb3 (bel_trans hb4 hb5)))
                    go_wp2_with fail
                    exact ⟨⟨m + 1, c + 1, by omega, by go_num, by go_num, HS.out, hb9⟩, by simp [intOf]; omega⟩
          · have hbf : ((b : Int) != (n : Int)) = true := by simp; omega
            have HS : Hid (c = cntR n (m + 1)) := by show c = _; rw [HST.out, selR_no (fun e => hbn (hpc.trans e))]; rfl
            clear hbn hpc
            go_wp2_with fail
            exact ⟨⟨m + 1, c, by omega, by go_num, rfl, HS.out, bel_trans hb hb2⟩, by simp [intOf]; omega⟩
    · obtain rfl : m = P := by omega
      have HC := Lib.hid hc
      have hmI : ¬ (m : Int) < (m : Int) := by omega
      clear hc
      go_wp2_with fail
      go_ret
      exact ⟨by rw [← HC.out]; rfl, hb⟩
theorem CountByRows_all (n : Int) (w : World) : Calls Try.prog 44 #[.int .i64 n] w (Ret w (.int .i64 (cntV n 4))) := by
  by_cases h : 1 ≤ n ∧ n ≤ 4
  · rcases (by omega : n = 1 ∨ n = 2 ∨ n = 3 ∨ n = 4) with rfl | rfl | rfl | rfl
    · have h1 := CountByRows_s 1 1 2 w (by decide) (by decide) rfl rfl
      rw [show cntR 1 2 = 1 from cntR_tree 1 1 1 (by decide) tree_1] at h1
      have e : cntV 1 4 = ((1 : Nat) : Int) := by show ((fixV 0).length : Int) = _; rw [len_fix0]
      rw [e]
      exact h1
    · have h1 := CountByRows_s 2 4 16 w (by decide) (by decide) rfl rfl
      rw [show cntR 2 16 = 2 from cntR_tree 2 4 2 (by decide) tree_2] at h1
      have e : cntV 2 4 = ((2 : Nat) : Int) := by show ((fixV 1).length : Int) = _; rw [len_fix1]
      rw [e]
      exact h1
    · have h1 := CountByRows_s 3 9 512 w (by decide) (by decide) rfl rfl
      rw [show cntR 3 512 = 6 from cntR_tree 3 9 6 (by decide) tree_3] at h1
      have e : cntV 3 4 = ((6 : Nat) : Int) := by show ((fixV 2).length : Int) = _; rw [len_fix2]
      rw [e]
      exact h1
    · have h1 := CountByRows_s 4 16 65536 w (by decide) (by decide) rfl rfl
      rw [show cntR 4 65536 = 19 from cntR_tree 4 16 19 (by decide) tree_4] at h1
      have e : cntV 4 4 = ((19 : Nat) : Int) := by show ((fixV 3).length : Int) = _; rw [len_fix3]
      rw [e]
      exact h1
  · have HV : Hid (cntV n 4 = -1) := by show cntV _ _ = _; unfold cntV; rw [if_neg h]
    have HB := Lib.hid h
    clear h
    go_enter Try.func44, Try.ntmps44
    go_wp2_with fail
    refine (l1In_f n 1 4 _ HB.out).mono ?_
    rintro e w1 ⟨rfl, hb1⟩
    go_wp2_with fail
    go_ret
    exact ⟨by rw [HV.out]; rfl, hb1⟩
end Go.Proofs.Ytagkopemcabkpaa

/- The law on growth. -/
namespace Go.Proofs.Ytagkopemcabkpaa
open Go.RowKit
set_option linter.unusedVariables false
attribute [local go_sem ↓] Go.wp_at_zero Go.wp_at_succ
set_option maxRecDepth 100000 in
set_option maxHeartbeats 1600000 in
theorem law_FnGrowth (A : Option Addr) (n c : Nat) (bs : List UInt8) (w : World) (hr : Rd w A (vB bs)) (hl : bs.length = n) (hm : n ≤ maxLen) :
    Calls Try.prog 4 #[.slice A n c] w (Ret w (.bool true)) := by
  have HR := Lib.hid hr
  have HL := Lib.hid hl
  clear hr hl
  by_cases hbig : (n : Int) > 1048576
  · have hd : decide ((n : Int) > 1048576) = true := decide_eq_true hbig
    go_enter Try.func4, Try.ntmps4
    go_wp2_with fail
    refine (big_l A n c w).mono ?_
    rw [hd]
    rintro e w1 ⟨rfl, hb1⟩
    clear hd
    go_wp2_with fail
    go_ret
    exact ⟨rfl, hb1⟩
  · have hd : decide ((n : Int) > 1048576) = false := decide_eq_false hbig
    have hn : n ≤ 1048576 := by omega
    clear hbig hm
    go_enter Try.func4, Try.ntmps4
    go_wp2_with fail
    refine (big_l A n c w).mono ?_
    rw [hd]
    rintro e w1 ⟨rfl, hb1⟩
    have HB1 := Lib.hid hb1
    clear hd hb1
    go_wp2_with fail
    refine (DrawGrowthSteps_s A n c bs w1 (HR.out.below HB1.out) HL.out hn).mono ?_
    rintro e w2 ⟨D, k, cD, xs, rfl, hr2, hl2, hk, hkc, hb2⟩
    have HR2 := Lib.hid hr2
    have HL2 := Lib.hid hl2
    have HB2 := Lib.hid (bel_trans HB1.out hb2)
    clear hr2 hl2 hb2
    go_wp2_with fail
    refine (GrowthSteps_i D k cD xs w2 HR2.out HL2.out (by omega)).mono ?_
    rintro e w3 ⟨E1, m1, c1, rfl, ho3, hb3⟩
    have HO3 := Lib.hid ho3
    have HB3 := Lib.hid (bel_trans HB2.out hb3)
    have HR3 := Lib.hid (HR2.out.below hb3)
    clear ho3 hb3 HR2
    go_wp2_with fail
    refine (GrowthSteps_s D k cD xs w3 HR3.out HL2.out (by omega)).mono ?_
    rintro e w4 ⟨E2, m2, c2, rfl, ho4, hb4⟩
    have HO4 := Lib.hid ho4
    have HO34 := Lib.hid (own_keep HO3.out hb4)
    have HB4 := Lib.hid (bel_trans HB3.out hb4)
    have HR4 := Lib.hid (HR3.out.below hb4)
    have hm1 := own_len HO3.out
    have hm2 := own_len HO4.out
    rw [vC_length] at hm1 hm2
    have hbnd := growSteps_len xs
    have hc2 := own_capD HO4.out
    have HM1 := Lib.hid (by omega : (growSteps xs).length = m1)
    have HM2 := Lib.hid (by omega : (growSteps xs).length = m2)
    have hmb1 : m1 ≤ 1048576 := by omega
    have hmb2 : m2 ≤ 1048576 := by omega
    have heq : (isConn xs != isConn xs) = false := by simp
    have HGO : Hid (isConn xs = true → isGrowth (growSteps xs) = true ∧ sortC (growSteps xs) = xs ∧ (growSteps xs).length = xs.length) := Lib.hid grow_ok
    generalize growSteps xs = G at *
    clear ho4 hb4 HR3 hm1 hm2 hbnd HO3
    go_wp2_with fail
    refine (EqualShapes_s E1 E2 m1 c1 m2 c2 G G w4 (Rd.of_own HO34.out) (Rd.of_own HO4.out) HM1.out HM2.out (by omega) (by omega)).mono ?_
    rw [show decide (G = G) = true from by simp]
    rintro e w5 ⟨rfl, hb5⟩
    have HB5 := Lib.hid hb5
    clear hb5
    go_wp2_with fail
    refine (IsConnectedShape_s D k cD xs w5 (HR4.out.below HB5.out) HL2.out (by omega)).mono ?_
    rintro e w6 ⟨rfl, hb6⟩
    have HB6 := Lib.hid (bel_trans HB5.out hb6)
    clear hb6 HB5
    cases hc : isConn xs with
    | false =>
      rw [hc] at heq
      clear hc HGO
      go_wp2_with fail
      refine (DrawCountRowConvex_s A n c bs w6 (HR.out.below (bel_trans HB4.out HB6.out)) HL.out hn).mono ?_
      rintro e v1 ⟨q, rfl, hq, hv1⟩
      have HV1 := Lib.hid (bel_trans (bel_trans HB4.out HB6.out) hv1)
      obtain ⟨x, hx⟩ : ∃ x : Int, (q : Int) - 1 = x := ⟨_, rfl⟩
      have hx2 : -1 ≤ x ∧ x ≤ 13 := by omega
      rw [hx]
      obtain ⟨rc, hrc⟩ : ∃ rc, rowC x = rc := ⟨_, rfl⟩
      have HRC := Lib.hid hrc
      have hrr : (rc != rc) = false := by simp
      clear hx hrc hv1
      go_wp2_with fail
      refine (CountRowConvex_i' x v1).mono ?_
      rw [HRC.out]
      rintro e v2 ⟨rfl, hv2⟩
      have HV2 := Lib.hid (bel_trans HV1.out hv2)
      clear hv2
      go_wp2_with fail
      refine (CountRowConvex_s' x v2).mono ?_
      rw [HRC.out]
      rintro e v3 ⟨rfl, hv3⟩
      have HV3 := Lib.hid (bel_trans HV2.out hv3)
      clear hv3
      by_cases h1 : x ≥ 1
      · by_cases h4 : x ≤ 4
        · obtain ⟨F, hF⟩ : ∃ F, fixA x = F := ⟨_, rfl⟩
          have HFX := Lib.hid hF
          have HSH := Lib.hid (fixA_shp3 x)
          have HLE := Lib.hid (fixA_len3 x)
          have HRQ := Lib.hid (rc_all x rc F hF HRC.out h1 h4)
          rw [hF] at HSH HLE
          clear hF
          go_wp2_with fail
          refine (FixedShapes_s x _).mono ?_
          rw [HFX.out]
          rintro e w11 ⟨gA0, m, c11, hs, rfl, hO, hb11⟩
          have HRF := Lib.hid hO.rd
          have hml : F.length = m := hO.flen
          have HML := Lib.hid hml
          have hmb : m ≤ 1048576 := by have := HLE.out; omega
          have HV11 := Lib.hid (bel_trans HV3.out hb11)
          clear hO hml hb11
          go_wp2_with fail
          go_loopw [11, 10] (fun ei ek wr => ∃ (i : Nat), i ≤ m ∧ ei = .int .i64 i ∧ ek = .int .i64 ((rcTo F i : Nat) : Int) ∧ Below w11.heap.size w11 wr) (fun ei _ _ => m - (intOf ei).toNat)
          case atStart => exact ⟨0, Nat.zero_le _, rfl, rfl, Below.refl _ _⟩
          case round =>
            obtain ⟨i, hi, rfl, rfl, hb⟩ := hrel
            by_cases hlt : i < m
            · have hi0 : (0 : Int) ≤ (i : Int) := by omega
              have hi1 : (i : Int) < (m : Int) := by omega
              obtain ⟨y, t, gA, off, hsx, hfx, hAe, hg, d1, hrow⟩ := (HRF.out.below hb).at_ hlt
              have htF := List.mem_of_getElem? hfx
              have htsh := HSH.out t htF
              obtain ⟨C1, m1, k1⟩ := y
              have hl1 : t.length = m1 := hrow.1
              have HL1 := Lib.hid hl1
              have HT := Lib.hid htsh
              have HROW := Lib.hid hrow
              have hcx := rcTo_succ F (by have := HML.out; omega : i < F.length)
              have hgt : F[i]'(by have := HML.out; omega) = t := by
                have h9 := List.getElem?_eq_getElem (by have := HML.out; omega : i < F.length)
                rw [hfx] at h9; exact (Option.some.inj h9).symm
              rw [hgt] at hcx
              have hcle := rcTo_le F i
              obtain ⟨q9, hq9⟩ : ∃ q9, rcTo F i = q9 := ⟨_, rfl⟩
              rw [hq9] at hcx hcle ⊢
              have HCX := Lib.hid hcx
              dsimp only at d1
              cases hAe
              (try simp only [Nat.zero_add] at d1)
              clear hsx hfx htF hrow hl1 htsh hgt hcx hq9
              go_wp2_with fail
              refine (IsRowConvex_s C1 m1 k1 t _ HROW.out.2.1 HL1.out HT.out).mono ?_
              cases hrv : rowCvx t with
              | false =>
                rintro e w12 ⟨rfl, hb12⟩
                have HX : Hid (rcTo F (i + 1) = q9) := by show _ = _; rw [HCX.out, hrv]; simp
                clear d1 hrv
                go_wp2_with fail
                exact ⟨⟨i + 1, by omega, by go_num, by rw [HX.out], bel_trans hb hb12⟩, by simp [intOf]; omega⟩
              | true =>
                rintro e w12 ⟨rfl, hb12⟩
                have HX : Hid (rcTo F (i + 1) = q9 + 1) := by show _ = _; rw [HCX.out, hrv]; simp
                clear d1 hrv
                go_wp2_with fail
                exact ⟨⟨i + 1, by omega, by go_num, by rw [HX.out]; go_num, bel_trans hb hb12⟩, by simp [intOf]; omega⟩
            · obtain rfl : i = m := by omega
              have hi1 : ¬ (i : Int) < (i : Int) := by omega
              have HV12 := Lib.hid (bel_trans HV11.out hb)
              have hq9 : rcTo F i = rcTo F F.length := by rw [HML.out]
              rw [hq9]
              clear hq9
              have HQ : Hid (rc = ((rcTo F F.length : Nat) : Int)) := HRQ
              obtain ⟨q9, hq9⟩ : ∃ q9 : Int, ((rcTo F F.length : Nat) : Int) = q9 := ⟨_, rfl⟩
              rw [hq9]
              have HQ2 : Hid (rowC x = q9) := by show _ = _; rw [HRC.out, HQ.out, hq9]
              have hqq : (q9 != q9) = false := by simp
              clear hq9 hi hb
              go_wp2_with fail
              refine (CountRowConvex_i' x _).mono ?_
              rw [HQ2.out]
              rintro e v4 ⟨rfl, hv4⟩
              have HV4 := Lib.hid (bel_trans HV12.out hv4)
              clear hv4
              go_wp2_with fail
              refine (DrawIsGrowth_s A n c bs v4 (HR.out.below HV4.out) HL.out hn).mono ?_
              rintro e u1 ⟨D2, k2, d2, ys, rfl, hr9, hl9, hk9, hkc9, hu1⟩
              have HR9 := Lib.hid hr9
              have HL9 := Lib.hid hl9
              have HU1 := Lib.hid (bel_trans HV4.out hu1)
              obtain ⟨ig, hig⟩ : ∃ ig, isGrowth ys = ig := ⟨_, rfl⟩
              have HIG := Lib.hid hig
              have hii : (ig == ig) = true := by simp
              clear hr9 hl9 hu1 hig
              go_wp2_with fail
              refine (DrawCountByGrowth_s A n c bs u1 (HR.out.below HU1.out) HL.out hn).mono ?_
              rintro e u2 ⟨qa, rfl, hqa, hu2⟩
              have HU2 := Lib.hid hu2
              obtain ⟨a, ha⟩ : ∃ a : Int, (qa : Int) - 1 = a := ⟨_, rfl⟩
              rw [ha]
              clear hu2 ha hqa
              go_wp2_with fail
              refine (DrawCountByRows_s A n c bs u2 (HR.out.below (bel_trans HU1.out HU2.out)) HL.out hn).mono ?_
              rintro e u3 ⟨qb, rfl, hqb, hu3⟩
              have HU3 := Lib.hid (bel_trans HU2.out hu3)
              obtain ⟨b, hb⟩ : ∃ b : Int, (qb : Int) - 1 = b := ⟨_, rfl⟩
              rw [hb]
              obtain ⟨cg, hcg⟩ : ∃ cg, cntV a 6 = cg := ⟨_, rfl⟩
              obtain ⟨cr, hcr⟩ : ∃ cr, cntV b 4 = cr := ⟨_, rfl⟩
              have HCG := Lib.hid hcg
              have HCR := Lib.hid hcr
              have hgg : (cg == cg) = true := by simp
              have hrr2 : (cr == cr) = true := by simp
              clear hu3 hb hqb hcg hcr
              go_wp2_with fail
              refine (IsGrowth_i D2 k2 d2 ys u3 (HR9.out.below HU3.out) HL9.out (by omega) hkc9).mono ?_
              rw [HIG.out]
              rintro e u4 ⟨rfl, hu4⟩
              have HU4 := Lib.hid (bel_trans HU3.out hu4)
              clear hu4
              go_wp2_with fail
              refine (IsGrowth_s D2 k2 d2 ys u4 (HR9.out.below HU4.out) HL9.out (by omega) hkc9).mono ?_
              rw [HIG.out]
              rintro e u5 ⟨rfl, hu5⟩
              have HU5 := Lib.hid (bel_trans HU4.out hu5)
              clear hu5
              go_wp2_with fail
              refine (CountByGrowth_i a u5).mono ?_
              rw [HCG.out]
              rintro e u6 ⟨rfl, hu6⟩
              go_wp2_with fail
              refine (CountByGrowth_s a u6).mono ?_
              rw [cg_eq, HCG.out]
              rintro e u7 ⟨rfl, hu7⟩
              go_wp2_with fail
              refine (CountByRows_i b u7).mono ?_
              rw [HCR.out]
              rintro e u8 ⟨rfl, hu8⟩
              go_wp2_with fail
              refine (CountByRows_all b u8).mono ?_
              rw [HCR.out]
              rintro e u9 ⟨rfl, hu9⟩
              go_wp2_with fail
              go_ret
              exact ⟨rfl, bel_trans HU1.out (bel_trans HU5.out (bel_trans hu6 (bel_trans hu7 (bel_trans hu8 hu9))))⟩
        · go_wp2_with fail
          refine (DrawIsGrowth_s A n c bs v3 (HR.out.below HV3.out) HL.out hn).mono ?_
          rintro e u1 ⟨D2, k2, d2, ys, rfl, hr9, hl9, hk9, hkc9, hu1⟩
          have HR9 := Lib.hid hr9
          have HL9 := Lib.hid hl9
          have HU1 := Lib.hid (bel_trans HV3.out hu1)
          obtain ⟨ig, hig⟩ : ∃ ig, isGrowth ys = ig := ⟨_, rfl⟩
          have HIG := Lib.hid hig
          have hii : (ig == ig) = true := by simp
          clear hr9 hl9 hu1 hig
          go_wp2_with fail
          refine (DrawCountByGrowth_s A n c bs u1 (HR.out.below HU1.out) HL.out hn).mono ?_
          rintro e u2 ⟨qa, rfl, hqa, hu2⟩
          have HU2 := Lib.hid hu2
          obtain ⟨a, ha⟩ : ∃ a : Int, (qa : Int) - 1 = a := ⟨_, rfl⟩
          rw [ha]
          clear hu2 ha hqa
          go_wp2_with fail
          refine (DrawCountByRows_s A n c bs u2 (HR.out.below (bel_trans HU1.out HU2.out)) HL.out hn).mono ?_
          rintro e u3 ⟨qb, rfl, hqb, hu3⟩
          have HU3 := Lib.hid (bel_trans HU2.out hu3)
          obtain ⟨b, hb⟩ : ∃ b : Int, (qb : Int) - 1 = b := ⟨_, rfl⟩
          rw [hb]
          obtain ⟨cg, hcg⟩ : ∃ cg, cntV a 6 = cg := ⟨_, rfl⟩
          obtain ⟨cr, hcr⟩ : ∃ cr, cntV b 4 = cr := ⟨_, rfl⟩
          have HCG := Lib.hid hcg
          have HCR := Lib.hid hcr
          have hgg : (cg == cg) = true := by simp
          have hrr2 : (cr == cr) = true := by simp
          clear hu3 hb hqb hcg hcr
          go_wp2_with fail
          refine (IsGrowth_i D2 k2 d2 ys u3 (HR9.out.below HU3.out) HL9.out (by omega) hkc9).mono ?_
          rw [HIG.out]
          rintro e u4 ⟨rfl, hu4⟩
          have HU4 := Lib.hid (bel_trans HU3.out hu4)
          clear hu4
          go_wp2_with fail
          refine (IsGrowth_s D2 k2 d2 ys u4 (HR9.out.below HU4.out) HL9.out (by omega) hkc9).mono ?_
          rw [HIG.out]
          rintro e u5 ⟨rfl, hu5⟩
          have HU5 := Lib.hid (bel_trans HU4.out hu5)
          clear hu5
          go_wp2_with fail
          refine (CountByGrowth_i a u5).mono ?_
          rw [HCG.out]
          rintro e u6 ⟨rfl, hu6⟩
          go_wp2_with fail
          refine (CountByGrowth_s a u6).mono ?_
          rw [cg_eq, HCG.out]
          rintro e u7 ⟨rfl, hu7⟩
          go_wp2_with fail
          refine (CountByRows_i b u7).mono ?_
          rw [HCR.out]
          rintro e u8 ⟨rfl, hu8⟩
          go_wp2_with fail
          refine (CountByRows_all b u8).mono ?_
          rw [HCR.out]
          rintro e u9 ⟨rfl, hu9⟩
          go_wp2_with fail
          go_ret
          exact ⟨rfl, bel_trans HU1.out (bel_trans HU5.out (bel_trans hu6 (bel_trans hu7 (bel_trans hu8 hu9))))⟩
      · go_wp2_with fail
        refine (DrawIsGrowth_s A n c bs v3 (HR.out.below HV3.out) HL.out hn).mono ?_
        rintro e u1 ⟨D2, k2, d2, ys, rfl, hr9, hl9, hk9, hkc9, hu1⟩
        have HR9 := Lib.hid hr9
        have HL9 := Lib.hid hl9
        have HU1 := Lib.hid (bel_trans HV3.out hu1)
        obtain ⟨ig, hig⟩ : ∃ ig, isGrowth ys = ig := ⟨_, rfl⟩
        have HIG := Lib.hid hig
        have hii : (ig == ig) = true := by simp
        clear hr9 hl9 hu1 hig
        go_wp2_with fail
        refine (DrawCountByGrowth_s A n c bs u1 (HR.out.below HU1.out) HL.out hn).mono ?_
        rintro e u2 ⟨qa, rfl, hqa, hu2⟩
        have HU2 := Lib.hid hu2
        obtain ⟨a, ha⟩ : ∃ a : Int, (qa : Int) - 1 = a := ⟨_, rfl⟩
        rw [ha]
        clear hu2 ha hqa
        go_wp2_with fail
        refine (DrawCountByRows_s A n c bs u2 (HR.out.below (bel_trans HU1.out HU2.out)) HL.out hn).mono ?_
        rintro e u3 ⟨qb, rfl, hqb, hu3⟩
        have HU3 := Lib.hid (bel_trans HU2.out hu3)
        obtain ⟨b, hb⟩ : ∃ b : Int, (qb : Int) - 1 = b := ⟨_, rfl⟩
        rw [hb]
        obtain ⟨cg, hcg⟩ : ∃ cg, cntV a 6 = cg := ⟨_, rfl⟩
        obtain ⟨cr, hcr⟩ : ∃ cr, cntV b 4 = cr := ⟨_, rfl⟩
        have HCG := Lib.hid hcg
        have HCR := Lib.hid hcr
        have hgg : (cg == cg) = true := by simp
        have hrr2 : (cr == cr) = true := by simp
        clear hu3 hb hqb hcg hcr
        go_wp2_with fail
        refine (IsGrowth_i D2 k2 d2 ys u3 (HR9.out.below HU3.out) HL9.out (by omega) hkc9).mono ?_
        rw [HIG.out]
        rintro e u4 ⟨rfl, hu4⟩
        have HU4 := Lib.hid (bel_trans HU3.out hu4)
        clear hu4
        go_wp2_with fail
        refine (IsGrowth_s D2 k2 d2 ys u4 (HR9.out.below HU4.out) HL9.out (by omega) hkc9).mono ?_
        rw [HIG.out]
        rintro e u5 ⟨rfl, hu5⟩
        have HU5 := Lib.hid (bel_trans HU4.out hu5)
        clear hu5
        go_wp2_with fail
        refine (CountByGrowth_i a u5).mono ?_
        rw [HCG.out]
        rintro e u6 ⟨rfl, hu6⟩
        go_wp2_with fail
        refine (CountByGrowth_s a u6).mono ?_
        rw [cg_eq, HCG.out]
        rintro e u7 ⟨rfl, hu7⟩
        go_wp2_with fail
        refine (CountByRows_i b u7).mono ?_
        rw [HCR.out]
        rintro e u8 ⟨rfl, hu8⟩
        go_wp2_with fail
        refine (CountByRows_all b u8).mono ?_
        rw [HCR.out]
        rintro e u9 ⟨rfl, hu9⟩
        go_wp2_with fail
        go_ret
        exact ⟨rfl, bel_trans HU1.out (bel_trans HU5.out (bel_trans hu6 (bel_trans hu7 (bel_trans hu8 hu9))))⟩
    | true =>
      rw [hc] at heq
      obtain ⟨hgr, hso, hge⟩ := HGO.out hc
      have h8 := shape_len (conn_shape hc)
      have hm12 : 1 ≤ m2 ∧ m2 ≤ 12 := by have := HM2.out; omega
      have HGR := Lib.hid hgr
      have HSO := Lib.hid hso
      clear hc HGO hgr hso hge h8
      go_wp2_with fail
      refine (IsGrowth_i E2 m2 c2 G w6 ((Rd.of_own HO4.out).below HB6.out) HM2.out (by omega) hc2).mono ?_
      rw [HGR.out]
      rintro e w7 ⟨rfl, hb7⟩
      have HB7 := Lib.hid (bel_trans HB6.out hb7)
      clear hb7 HB6
      go_wp2_with fail
      refine (SortCells_i E2 m2 c2 G w7 ((Rd.of_own HO4.out).below HB7.out) HM2.out hm12.1 hm12.2).mono ?_
      rw [HSO.out]
      rintro e w8 ⟨E8, m8, c8, rfl, ho8, hb8⟩
      have HO8 := Lib.hid ho8
      have hm8 := own_len ho8
      rw [vC_length] at hm8
      have HM8 := Lib.hid (by omega : xs.length = m8)
      have HB8 := Lib.hid (bel_trans HB7.out hb8)
      have hmb8 : m8 ≤ 1048576 := by have := HL2.out; omega
      clear ho8 hb8 hm8 HB7
      go_wp2_with fail
      refine (EqualShapes_s E8 D m8 c8 k cD xs xs w8 (Rd.of_own HO8.out) (HR4.out.below HB8.out) HM8.out HL2.out (by omega) (by omega)).mono ?_
      rw [show decide (xs = xs) = true from by simp]
      rintro e w9 ⟨rfl, hb9⟩
      have HB9 := Lib.hid (bel_trans HB8.out hb9)
      clear hb9 HB8
      go_wp2_with fail
      refine (DrawCountRowConvex_s A n c bs w9 (HR.out.below (bel_trans HB4.out HB9.out)) HL.out hn).mono ?_
      rintro e v1 ⟨q, rfl, hq, hv1⟩
      have HV1 := Lib.hid (bel_trans (bel_trans HB4.out HB9.out) hv1)
      obtain ⟨x, hx⟩ : ∃ x : Int, (q : Int) - 1 = x := ⟨_, rfl⟩
      have hx2 : -1 ≤ x ∧ x ≤ 13 := by omega
      rw [hx]
      obtain ⟨rc, hrc⟩ : ∃ rc, rowC x = rc := ⟨_, rfl⟩
      have HRC := Lib.hid hrc
      have hrr : (rc != rc) = false := by simp
      clear hx hrc hv1
      go_wp2_with fail
      refine (CountRowConvex_i' x v1).mono ?_
      rw [HRC.out]
      rintro e v2 ⟨rfl, hv2⟩
      have HV2 := Lib.hid (bel_trans HV1.out hv2)
      clear hv2
      go_wp2_with fail
      refine (CountRowConvex_s' x v2).mono ?_
      rw [HRC.out]
      rintro e v3 ⟨rfl, hv3⟩
      have HV3 := Lib.hid (bel_trans HV2.out hv3)
      clear hv3
      by_cases h1 : x ≥ 1
      · by_cases h4 : x ≤ 4
        · obtain ⟨F, hF⟩ : ∃ F, fixA x = F := ⟨_, rfl⟩
          have HFX := Lib.hid hF
          have HSH := Lib.hid (fixA_shp3 x)
          have HLE := Lib.hid (fixA_len3 x)
          have HRQ := Lib.hid (rc_all x rc F hF HRC.out h1 h4)
          rw [hF] at HSH HLE
          clear hF
          go_wp2_with fail
          refine (FixedShapes_s x _).mono ?_
          rw [HFX.out]
          rintro e w11 ⟨gA0, m, c11, hs, rfl, hO, hb11⟩
          have HRF := Lib.hid hO.rd
          have hml : F.length = m := hO.flen
          have HML := Lib.hid hml
          have hmb : m ≤ 1048576 := by have := HLE.out; omega
          have HV11 := Lib.hid (bel_trans HV3.out hb11)
          clear hO hml hb11
          go_wp2_with fail
          go_loopw [11, 10] (fun ei ek wr => ∃ (i : Nat), i ≤ m ∧ ei = .int .i64 i ∧ ek = .int .i64 ((rcTo F i : Nat) : Int) ∧ Below w11.heap.size w11 wr) (fun ei _ _ => m - (intOf ei).toNat)
          case atStart => exact ⟨0, Nat.zero_le _, rfl, rfl, Below.refl _ _⟩
          case round =>
            obtain ⟨i, hi, rfl, rfl, hb⟩ := hrel
            by_cases hlt : i < m
            · have hi0 : (0 : Int) ≤ (i : Int) := by omega
              have hi1 : (i : Int) < (m : Int) := by omega
              obtain ⟨y, t, gA, off, hsx, hfx, hAe, hg, d1, hrow⟩ := (HRF.out.below hb).at_ hlt
              have htF := List.mem_of_getElem? hfx
              have htsh := HSH.out t htF
              obtain ⟨C1, m1, k1⟩ := y
              have hl1 : t.length = m1 := hrow.1
              have HL1 := Lib.hid hl1
              have HT := Lib.hid htsh
              have HROW := Lib.hid hrow
              have hcx := rcTo_succ F (by have := HML.out; omega : i < F.length)
              have hgt : F[i]'(by have := HML.out; omega) = t := by
                have h9 := List.getElem?_eq_getElem (by have := HML.out; omega : i < F.length)
                rw [hfx] at h9; exact (Option.some.inj h9).symm
              rw [hgt] at hcx
              have hcle := rcTo_le F i
              obtain ⟨q9, hq9⟩ : ∃ q9, rcTo F i = q9 := ⟨_, rfl⟩
              rw [hq9] at hcx hcle ⊢
              have HCX := Lib.hid hcx
              dsimp only at d1
              cases hAe
              (try simp only [Nat.zero_add] at d1)
              clear hsx hfx htF hrow hl1 htsh hgt hcx hq9
              go_wp2_with fail
              refine (IsRowConvex_s C1 m1 k1 t _ HROW.out.2.1 HL1.out HT.out).mono ?_
              cases hrv : rowCvx t with
              | false =>
                rintro e w12 ⟨rfl, hb12⟩
                have HX : Hid (rcTo F (i + 1) = q9) := by show _ = _; rw [HCX.out, hrv]; simp
                clear d1 hrv
                go_wp2_with fail
                exact ⟨⟨i + 1, by omega, by go_num, by rw [HX.out], bel_trans hb hb12⟩, by simp [intOf]; omega⟩
              | true =>
                rintro e w12 ⟨rfl, hb12⟩
                have HX : Hid (rcTo F (i + 1) = q9 + 1) := by show _ = _; rw [HCX.out, hrv]; simp
                clear d1 hrv
                go_wp2_with fail
                exact ⟨⟨i + 1, by omega, by go_num, by rw [HX.out]; go_num, bel_trans hb hb12⟩, by simp [intOf]; omega⟩
            · obtain rfl : i = m := by omega
              have hi1 : ¬ (i : Int) < (i : Int) := by omega
              have HV12 := Lib.hid (bel_trans HV11.out hb)
              have hq9 : rcTo F i = rcTo F F.length := by rw [HML.out]
              rw [hq9]
              clear hq9
              have HQ : Hid (rc = ((rcTo F F.length : Nat) : Int)) := HRQ
              obtain ⟨q9, hq9⟩ : ∃ q9 : Int, ((rcTo F F.length : Nat) : Int) = q9 := ⟨_, rfl⟩
              rw [hq9]
              have HQ2 : Hid (rowC x = q9) := by show _ = _; rw [HRC.out, HQ.out, hq9]
              have hqq : (q9 != q9) = false := by simp
              clear hq9 hi hb
              go_wp2_with fail
              refine (CountRowConvex_i' x _).mono ?_
              rw [HQ2.out]
              rintro e v4 ⟨rfl, hv4⟩
              have HV4 := Lib.hid (bel_trans HV12.out hv4)
              clear hv4
              go_wp2_with fail
              refine (DrawIsGrowth_s A n c bs v4 (HR.out.below HV4.out) HL.out hn).mono ?_
              rintro e u1 ⟨D2, k2, d2, ys, rfl, hr9, hl9, hk9, hkc9, hu1⟩
              have HR9 := Lib.hid hr9
              have HL9 := Lib.hid hl9
              have HU1 := Lib.hid (bel_trans HV4.out hu1)
              obtain ⟨ig, hig⟩ : ∃ ig, isGrowth ys = ig := ⟨_, rfl⟩
              have HIG := Lib.hid hig
              have hii : (ig == ig) = true := by simp
              clear hr9 hl9 hu1 hig
              go_wp2_with fail
              refine (DrawCountByGrowth_s A n c bs u1 (HR.out.below HU1.out) HL.out hn).mono ?_
              rintro e u2 ⟨qa, rfl, hqa, hu2⟩
              have HU2 := Lib.hid hu2
              obtain ⟨a, ha⟩ : ∃ a : Int, (qa : Int) - 1 = a := ⟨_, rfl⟩
              rw [ha]
              clear hu2 ha hqa
              go_wp2_with fail
              refine (DrawCountByRows_s A n c bs u2 (HR.out.below (bel_trans HU1.out HU2.out)) HL.out hn).mono ?_
              rintro e u3 ⟨qb, rfl, hqb, hu3⟩
              have HU3 := Lib.hid (bel_trans HU2.out hu3)
              obtain ⟨b, hb⟩ : ∃ b : Int, (qb : Int) - 1 = b := ⟨_, rfl⟩
              rw [hb]
              obtain ⟨cg, hcg⟩ : ∃ cg, cntV a 6 = cg := ⟨_, rfl⟩
              obtain ⟨cr, hcr⟩ : ∃ cr, cntV b 4 = cr := ⟨_, rfl⟩
              have HCG := Lib.hid hcg
              have HCR := Lib.hid hcr
              have hgg : (cg == cg) = true := by simp
              have hrr2 : (cr == cr) = true := by simp
              clear hu3 hb hqb hcg hcr
              go_wp2_with fail
              refine (IsGrowth_i D2 k2 d2 ys u3 (HR9.out.below HU3.out) HL9.out (by omega) hkc9).mono ?_
              rw [HIG.out]
              rintro e u4 ⟨rfl, hu4⟩
              have HU4 := Lib.hid (bel_trans HU3.out hu4)
              clear hu4
              go_wp2_with fail
              refine (IsGrowth_s D2 k2 d2 ys u4 (HR9.out.below HU4.out) HL9.out (by omega) hkc9).mono ?_
              rw [HIG.out]
              rintro e u5 ⟨rfl, hu5⟩
              have HU5 := Lib.hid (bel_trans HU4.out hu5)
              clear hu5
              go_wp2_with fail
              refine (CountByGrowth_i a u5).mono ?_
              rw [HCG.out]
              rintro e u6 ⟨rfl, hu6⟩
              go_wp2_with fail
              refine (CountByGrowth_s a u6).mono ?_
              rw [cg_eq, HCG.out]
              rintro e u7 ⟨rfl, hu7⟩
              go_wp2_with fail
              refine (CountByRows_i b u7).mono ?_
              rw [HCR.out]
              rintro e u8 ⟨rfl, hu8⟩
              go_wp2_with fail
              refine (CountByRows_all b u8).mono ?_
              rw [HCR.out]
              rintro e u9 ⟨rfl, hu9⟩
              go_wp2_with fail
              go_ret
              exact ⟨rfl, bel_trans HU1.out (bel_trans HU5.out (bel_trans hu6 (bel_trans hu7 (bel_trans hu8 hu9))))⟩
        · go_wp2_with fail
          refine (DrawIsGrowth_s A n c bs v3 (HR.out.below HV3.out) HL.out hn).mono ?_
          rintro e u1 ⟨D2, k2, d2, ys, rfl, hr9, hl9, hk9, hkc9, hu1⟩
          have HR9 := Lib.hid hr9
          have HL9 := Lib.hid hl9
          have HU1 := Lib.hid (bel_trans HV3.out hu1)
          obtain ⟨ig, hig⟩ : ∃ ig, isGrowth ys = ig := ⟨_, rfl⟩
          have HIG := Lib.hid hig
          have hii : (ig == ig) = true := by simp
          clear hr9 hl9 hu1 hig
          go_wp2_with fail
          refine (DrawCountByGrowth_s A n c bs u1 (HR.out.below HU1.out) HL.out hn).mono ?_
          rintro e u2 ⟨qa, rfl, hqa, hu2⟩
          have HU2 := Lib.hid hu2
          obtain ⟨a, ha⟩ : ∃ a : Int, (qa : Int) - 1 = a := ⟨_, rfl⟩
          rw [ha]
          clear hu2 ha hqa
          go_wp2_with fail
          refine (DrawCountByRows_s A n c bs u2 (HR.out.below (bel_trans HU1.out HU2.out)) HL.out hn).mono ?_
          rintro e u3 ⟨qb, rfl, hqb, hu3⟩
          have HU3 := Lib.hid (bel_trans HU2.out hu3)
          obtain ⟨b, hb⟩ : ∃ b : Int, (qb : Int) - 1 = b := ⟨_, rfl⟩
          rw [hb]
          obtain ⟨cg, hcg⟩ : ∃ cg, cntV a 6 = cg := ⟨_, rfl⟩
          obtain ⟨cr, hcr⟩ : ∃ cr, cntV b 4 = cr := ⟨_, rfl⟩
          have HCG := Lib.hid hcg
          have HCR := Lib.hid hcr
          have hgg : (cg == cg) = true := by simp
          have hrr2 : (cr == cr) = true := by simp
          clear hu3 hb hqb hcg hcr
          go_wp2_with fail
          refine (IsGrowth_i D2 k2 d2 ys u3 (HR9.out.below HU3.out) HL9.out (by omega) hkc9).mono ?_
          rw [HIG.out]
          rintro e u4 ⟨rfl, hu4⟩
          have HU4 := Lib.hid (bel_trans HU3.out hu4)
          clear hu4
          go_wp2_with fail
          refine (IsGrowth_s D2 k2 d2 ys u4 (HR9.out.below HU4.out) HL9.out (by omega) hkc9).mono ?_
          rw [HIG.out]
          rintro e u5 ⟨rfl, hu5⟩
          have HU5 := Lib.hid (bel_trans HU4.out hu5)
          clear hu5
          go_wp2_with fail
          refine (CountByGrowth_i a u5).mono ?_
          rw [HCG.out]
          rintro e u6 ⟨rfl, hu6⟩
          go_wp2_with fail
          refine (CountByGrowth_s a u6).mono ?_
          rw [cg_eq, HCG.out]
          rintro e u7 ⟨rfl, hu7⟩
          go_wp2_with fail
          refine (CountByRows_i b u7).mono ?_
          rw [HCR.out]
          rintro e u8 ⟨rfl, hu8⟩
          go_wp2_with fail
          refine (CountByRows_all b u8).mono ?_
          rw [HCR.out]
          rintro e u9 ⟨rfl, hu9⟩
          go_wp2_with fail
          go_ret
          exact ⟨rfl, bel_trans HU1.out (bel_trans HU5.out (bel_trans hu6 (bel_trans hu7 (bel_trans hu8 hu9))))⟩
      · go_wp2_with fail
        refine (DrawIsGrowth_s A n c bs v3 (HR.out.below HV3.out) HL.out hn).mono ?_
        rintro e u1 ⟨D2, k2, d2, ys, rfl, hr9, hl9, hk9, hkc9, hu1⟩
        have HR9 := Lib.hid hr9
        have HL9 := Lib.hid hl9
        have HU1 := Lib.hid (bel_trans HV3.out hu1)
        obtain ⟨ig, hig⟩ : ∃ ig, isGrowth ys = ig := ⟨_, rfl⟩
        have HIG := Lib.hid hig
        have hii : (ig == ig) = true := by simp
        clear hr9 hl9 hu1 hig
        go_wp2_with fail
        refine (DrawCountByGrowth_s A n c bs u1 (HR.out.below HU1.out) HL.out hn).mono ?_
        rintro e u2 ⟨qa, rfl, hqa, hu2⟩
        have HU2 := Lib.hid hu2
        obtain ⟨a, ha⟩ : ∃ a : Int, (qa : Int) - 1 = a := ⟨_, rfl⟩
        rw [ha]
        clear hu2 ha hqa
        go_wp2_with fail
        refine (DrawCountByRows_s A n c bs u2 (HR.out.below (bel_trans HU1.out HU2.out)) HL.out hn).mono ?_
        rintro e u3 ⟨qb, rfl, hqb, hu3⟩
        have HU3 := Lib.hid (bel_trans HU2.out hu3)
        obtain ⟨b, hb⟩ : ∃ b : Int, (qb : Int) - 1 = b := ⟨_, rfl⟩
        rw [hb]
        obtain ⟨cg, hcg⟩ : ∃ cg, cntV a 6 = cg := ⟨_, rfl⟩
        obtain ⟨cr, hcr⟩ : ∃ cr, cntV b 4 = cr := ⟨_, rfl⟩
        have HCG := Lib.hid hcg
        have HCR := Lib.hid hcr
        have hgg : (cg == cg) = true := by simp
        have hrr2 : (cr == cr) = true := by simp
        clear hu3 hb hqb hcg hcr
        go_wp2_with fail
        refine (IsGrowth_i D2 k2 d2 ys u3 (HR9.out.below HU3.out) HL9.out (by omega) hkc9).mono ?_
        rw [HIG.out]
        rintro e u4 ⟨rfl, hu4⟩
        have HU4 := Lib.hid (bel_trans HU3.out hu4)
        clear hu4
        go_wp2_with fail
        refine (IsGrowth_s D2 k2 d2 ys u4 (HR9.out.below HU4.out) HL9.out (by omega) hkc9).mono ?_
        rw [HIG.out]
        rintro e u5 ⟨rfl, hu5⟩
        have HU5 := Lib.hid (bel_trans HU4.out hu5)
        clear hu5
        go_wp2_with fail
        refine (CountByGrowth_i a u5).mono ?_
        rw [HCG.out]
        rintro e u6 ⟨rfl, hu6⟩
        go_wp2_with fail
        refine (CountByGrowth_s a u6).mono ?_
        rw [cg_eq, HCG.out]
        rintro e u7 ⟨rfl, hu7⟩
        go_wp2_with fail
        refine (CountByRows_i b u7).mono ?_
        rw [HCR.out]
        rintro e u8 ⟨rfl, hu8⟩
        go_wp2_with fail
        refine (CountByRows_all b u8).mono ?_
        rw [HCR.out]
        rintro e u9 ⟨rfl, hu9⟩
        go_wp2_with fail
        go_ret
        exact ⟨rfl, bel_trans HU1.out (bel_trans HU5.out (bel_trans hu6 (bel_trans hu7 (bel_trans hu8 hu9))))⟩
end Go.Proofs.Ytagkopemcabkpaa
